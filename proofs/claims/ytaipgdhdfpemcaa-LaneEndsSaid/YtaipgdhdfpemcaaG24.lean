/- THE WALKS OF THE LANE, part 24. -/
import Derived.Test.YtaipgdhdfpemcaaG22
import Derived.Test.YtaipgdhdfpemcaaG23
namespace Go.Proofs.Ytaipgdhdfpemcaa
set_option linter.all false
open Go.RowKit Go.Proofs.Try
set_option maxRecDepth 100000
set_option maxHeartbeats 4000000
section
variable {cs:Array Value} {l:LaneC} {os:List OpC} {m:MailC} {b bx c cap g lb n:Nat} {S:Nat->Prop} {A:O} {t:TypeId} {w w' w0:World}
theorem Turn.kept (h:Turn g w w') (hg:¬ S g):Kept S w w':=⟨h.size,fun b h1 h2=>h.1 b h2 (by rintro rfl;exact hg h1)⟩
theorem Turn.blk (h:Turn g w w') (hb:Blk w b t cs) (hne:b≠g):Blk w' b t cs:=(h.1 b hb.lt hne).trans hb
theorem take10 (Q:Z) (a:Act) (hL:¬ S lb) (hU:∀ b,w0.heap.size<=b->S b) (hfr:Fr 109 a [(0,lb),(2,.slice A n cap),(4,bx)]) (h:Tk w0 w S lb bx l m A n cap os) (hz:m.holes.length*8<=140737488351232) (hQ:∀ a' w',Fr 109 a' [(0,lb),(2,.slice A n cap),(4,bx)]->Tk w0 w' S lb bx {l with wN:=m.whN,wE:=m.whE,holes:=m.holes} m A n cap os->Q .normal a' w') :
 (part [1,1,0,0,1,1,1,0,1,1,0] (codeOf takeF)).wp prog Q a w:=by
 obtain⟨HT,HQ,HL,HU⟩:=J4 h hQ hL hU
 clear h hQ hL hU
 refine gg hfr fun t=>?_
 obtain⟨l1,hl1⟩:∃ l1,l1=({l with wN:=m.whN,wE:=m.whE,holes:=m.holes}:LaneC):=⟨_,rfl⟩
 have HE:=J hl1
 clear hl1
 obtain⟨eA,en,ec,hA,hn',hc,oA,on,oc,pA,pn,pc,kb,ko⟩:=HT.out.box
 have hlen:=ko.len
 have HN:=J (show on*8<=140737488351232 by omega)
 obtain⟨cells,hcells⟩:∃ cells,cells=mailC m.kind m.term m.index m.prev m.commit m.good eA en ec m.data hA hn' hc m.epoch m.site m.atN m.atE m.whN m.whE oA on oc pA pn pc:=⟨_,rfl⟩
 rw [<-hcells] at kb
 obtain⟨HC,KB,KO⟩:=J3 hcells kb ko
 clear hcells kb ko hlen hz
 refine wp_region_all kr (fun i v W=>match i with|0=>v=lb|1=>v=.pointer (some ⟨bx,13,none⟩)|2=>v=.agg #[m.whN,m.whE]|3=>v=.pointer (some ⟨bx,15,none⟩)|4=>v=.slice oA on oc|5=>∃ A c,v=.slice A on c/\IntIs W S A on c m.holes|6=>∃ A c,v=.agg #[m.whN,m.whE,.slice A on c]/\IntIs W S A on c m.holes|7=>v=lb|8=>v=lb|9=>v=.pointer (some ⟨lb,2,none⟩)|10=>LaneIs W S lb l1|_=>True) (fun W=>Tk2 w0 W S lb bx l l1 m A n cap os/\Blk W bx 30 cells/\IntIs W S oA on oc m.holes) (fun W W'=>Turn lb W W'/\(LaneIs W S lb l1->LaneIs W' S lb l1)) kr ?hG ?hmono ?hstep ?hend
 case hG=>exact⟨HT.out.drew.two,KB.out.drew,KO.out⟩
 case hmono=>
  intro i v W W' hx hv
  match i with
  | 5=>
   obtain⟨A',c',rfl,hi⟩:=hv
   exact⟨A',c',rfl,hi.kept (hx.1.kept HL.out)⟩
  | 6=>
   obtain⟨A',c',rfl,hi⟩:=hv
   exact⟨A',c',rfl,hi.kept (hx.1.kept HL.out)⟩
  | 10=>
   exact hx.2 hv
  | 0|1|2|3|4|7|8|9=>exact hv
  | i+11=>exact hv
 case hstep=>
  intro i o F U W ho hGW hat hoff hp
  have hrefl:=fun W:World=>(⟨Turn.refl _ _,fun h=>h⟩:Turn lb W W/\(LaneIs W S lb l1->LaneIs W S lb l1))
  match i with
   | 0=>cases ho;refine on_ (wanted_none rfl) ?_;have e0:=oo 0 lb;exact wp_move' (.tmp 0) rfl ⟨_,rfl,e0,hGW,hrefl W⟩
   | 1=>
    exact Y150
   | 2=>
    cases ho;refine on_ (wanted_none rfl) ?_
    have e98:F.eval (.tmp 98)=.pointer (some ⟨bx,13,none⟩):=(hat 1 98 kd rfl).trans (hp ⟨1,.data⟩ (by simp) rfl:U 1=.pointer (some ⟨bx,13,none⟩))
    have t98:=act_tmp e98;clear hat hoff hp;have d0:=hGW.2.1.cell 13;have d1:=hGW.2.1.cell 14;simp [HC.out] at d0 d1
    exact wp_value' (.agg #[m.whN,m.whE]) W (by unfold execOp;go_simp) ⟨_,rfl,rfl,hGW,hrefl W⟩
   | 3=>
    cases ho;refine on_ (wanted_none rfl) ?_;have:=ot 4 bx;clear hat hoff hp
    exact wp_value' (.pointer (some ⟨bx,15,none⟩)) W (by unfold execOp;go_simp) ⟨_,rfl,rfl,hGW,hrefl W⟩
   | 4=>
    cases ho;refine on_ (wanted_none rfl) ?_
    have e100:F.eval (.tmp 100)=.pointer (some ⟨bx,15,none⟩):=(hat 3 100 kd rfl).trans (hp ⟨3,.data⟩ (by simp) rfl:U 3=.pointer (some ⟨bx,15,none⟩))
    have t100:=act_tmp e100;clear hat hoff hp;have d0:=hGW.2.1.cell 15;simp [HC.out] at d0
    exact wp_value' (.slice oA on oc) W (by unfold execOp;go_simp) ⟨_,rfl,rfl,hGW,hrefl W⟩
   | 5=>
    cases ho;refine on_ (wanted_none rfl) ?_
    have e101:F.eval (.tmp 101)=.slice oA on oc:=(hat 4 101 kd rfl).trans (hp ⟨4,.data⟩ (by simp) rfl:U 4=.slice oA on oc)
    have t101:=act_tmp e101;clear hat hoff hp
    refine wp_enter' 61 #[.slice oA on oc] (by unfold execOp;go_simp) ?_
    refine (cloneInts_any W hGW.2.2 HN.out).mono ?_
    rintro e W' ⟨A',c',rfl,hi,hb⟩
    exact⟨_,rfl,_,rfl,⟨A',c',rfl,hi.mono fun b _ h=>HU.out b (Nat.le_trans hGW.1.turn.size h)⟩,⟨hGW.1.below hb,hGW.2.1.below hb hGW.2.1.lt,hGW.2.2.below hb⟩,Turn.of (Nat.le_of_lt hGW.1.lt) hb,fun h=>h.below hb⟩
   | 6=>
    cases ho;refine on_ (wanted_none rfl) ?_
    have e99:F.eval (.tmp 99)=.agg #[m.whN,m.whE]:=(hat 2 99 kd rfl).trans (hp ⟨2,.data⟩ (by simp) rfl:U 2=.agg #[m.whN,m.whE])
    have t99:=act_tmp e99;have e102:=hat 5 102 kd rfl
    have v102:=hp ⟨5,.data⟩ (by simp) rfl
    clear hat hoff hp;obtain⟨A',c',h102,hi⟩:=v102;rw [h102] at e102;have t102:=act_tmp e102
    exact wp_value' (.agg #[m.whN,m.whE,.slice A' on c']) W (by unfold execOp;go_simp) ⟨_,rfl,⟨A',c',rfl,hi⟩,hGW,hrefl W⟩
   | 7=>
    cases ho;refine on_ (wanted_none rfl) ?_
    have e97:F.eval (.tmp 97)=.pointer (some ⟨lb,0,none⟩):=(hat 0 97 kd rfl).trans (hp ⟨0,.data⟩ (by simp) rfl:U 0=.pointer (some ⟨lb,0,none⟩))
    have t97:=act_tmp e97;clear hat hoff hp
    exact Y7
   | 8=>
    cases ho;refine on_ (wanted_none rfl) ?_
    have e104:F.eval (.tmp 104)=.pointer (some ⟨lb,0,none⟩):=(hat 7 104 kd rfl).trans (hp ⟨7,.data⟩ (by simp) rfl:U 7=.pointer (some ⟨lb,0,none⟩))
    have t104:=act_tmp e104;clear hat hoff hp
    exact Y7
   | 9=>
    cases ho;refine on_ (wanted_none rfl) ?_
    have e105:F.eval (.tmp 105)=.pointer (some ⟨lb,0,none⟩):=(hat 8 105 kd rfl).trans (hp ⟨8,.data⟩ (by simp) rfl:U 8=.pointer (some ⟨lb,0,none⟩))
    have t105:=act_tmp e105;clear hat hoff hp
    exact Y26
   | 10=>
    cases ho;refine on_ (wanted_none rfl) ?_
    have e106:F.eval (.tmp 106)=.pointer (some ⟨lb,2,none⟩):=(hat 9 106 kd rfl).trans (hp ⟨9,.data⟩ (by simp) rfl:U 9=.pointer (some ⟨lb,2,none⟩))
    have t106:=act_tmp e106;have e103:=hat 6 103 kd rfl
    have v103:=hp ⟨6,.data⟩ (by simp) rfl
    clear hat hoff hp;obtain⟨A',c',h103,hi⟩:=v103;rw [h103] at e103;have ht:=setCells_turn lb 2 [.int .i64 m.whN,.int .i64 m.whE,.slice A' on c'] W;have hi':=hi.kept (ht.kept HL.out)
    have hnew:∀ l0:LaneC,l1={l0 with wN:=m.whN,wE:=m.whE,holes:=m.holes}->LaneIs W S lb l0->LaneIs (W.setCells lb 2 [.int .i64 m.whN,.int .i64 m.whE,.slice A' on c']) S lb l1:=by
     rintro l0 e0 ⟨oA0,on0,oc0,kl,ki⟩
     rw [e0];refine⟨A',on,c',?_,hi'⟩;rw [putCells_eq];exact ((kl.set_ 2 _).set_ 3 _).set_ 4 _
    have hl:LaneIs (W.setCells lb 2 [.int .i64 m.whN,.int .i64 m.whE,.slice A' on c']) S lb l1:=by
     rcases hGW.1.lane with h|h
     ·exact hnew l (by rw [HE.out]) h
     ·exact hnew l1 (by rw [HE.out]) h
    have hth:W.there lb 2 3:=by
     rcases hGW.1.lane with ⟨oA0,on0,oc0,kl,ki⟩|⟨oA0,on0,oc0,kl,ki⟩<;>exact kl.there_ 2 3 (by show 5<=8;omega)
    refine wp_store_mid 32 (.tmp 106) (.tmp 103) rfl lb 2 #[m.whN,m.whE,.slice A' on c'] e106 e103 hth Try.sizeReach reachC_one ?_
    exact⟨_,rfl,hl,⟨hGW.1.turned HL.out ht hl,ht.blk hGW.2.1 (by rintro rfl;exact HL.out hGW.1.bxS),hGW.2.2.kept (ht.kept HL.out)⟩,ht,fun _=>hl⟩
   | i+11=>exact absurd ho (by simp)
 case hend=>
  intro U W hGW hV
  have hl1:LaneIs W S lb l1:=hV 10 kd
  have hk:=hGW.1.one hl1
  exact Y70
theorem OpsV.epochs:∀ {ds:List Opd} {cs:List OpC},OpsV w S ds cs->ds.map (·.epoch)=cs.map (·.epoch)
 | [],[],_=>rfl
 | o::ds,c::cs,h=>by
  obtain⟨A,n,cap,e,_⟩:=h.1
  subst e
  simp only [List.map_cons,OpsV.epochs h.2,OpC.at_]
 | [],_::_,h=>h.elim
 | _::_,[],h=>h.elim
theorem epochs_new (A:O) (n c:Nat) (os:List Opd) (w:World) (h:Reads w w.heap.size 9 A n (opsV os)) (hn:n<=4294967296) :
 Calls prog 56 #[.slice A n c] w fun x w'=>∃ g,x=.returned (.slice (some ⟨g,0,none⟩) n n)/\IntIs w' (From w.heap.size) (some ⟨g,0,none⟩) n n (os.map (·.epoch))/\Below w w w':=by
 have hlen:=ops_len h
 obtain⟨HR,HL⟩:=J2 h hlen
 clear h hlen
 have hmk:=run_make_row' (P:=prog) 27 3 (.int .i64 0) 8 underlying27 Try.infoInt rfl .i64 .i64 n (w:=w) (by omega) (by omega)
 go_enter func56,ntmps56
 go_wp2_with fail
 have hbk:=Blk.new w 3 (madeCells #[.int .i64 0] n)
 have hb0:Below w w (w.alloc (.cells (madeCells #[.int .i64 0] n) 3)):=(Below.refl _ _).alloc (Nat.le_refl _) _
 obtain⟨W,hW⟩:∃ W,W=w.alloc (.cells (madeCells #[.int .i64 0] n) 3):=⟨_,rfl⟩
 rw [<-hW]
 rw [<-hW] at hb0 hbk
 have hsz:(madeCells #[.int .i64 0] n).size=n:=by simp [madeCells]
 obtain⟨c0,hc0⟩:∃ c0,c0=madeCells #[.int .i64 0] n:=⟨_,rfl⟩
 rw [<-hc0] at hbk hsz
 obtain⟨HB0,HBK⟩:=J2 hb0 hbk
 clear hW hc0 hmk hb0 hbk
 go_loopw [11] (fun i wr=>∃ (k:Nat) (cu:Array Value),k<=n/\i=.int .i64 k/\cu.size=n/\Blk wr w 3 cu/\(∀ j,j<k->cu[j]? = (intV .i64 (os.map (·.epoch)))[j]?)/\Below w w wr) (fun i _=>n-(intOf i).toNat)
 case atStart=>exact⟨0,c0,by omega,rfl,hsz,HBK.out,fun j hj=>absurd hj (by omega),HB0.out⟩
 case round=>
  obtain⟨k,cu,hk,rfl,hcs,hbk,hcu,hb⟩:=hrel
  obtain⟨HCU,HBK,HB,HCS⟩:=J4 hcu hbk hb hcs
  clear hcu hbk hb hcs hsz
  rcases Nat.lt_or_ge k n with hk1|hk1
  ·obtain⟨ad,o,rfl,hab,ho,hop⟩:=op_at (HR.out.below HB.out) hk1
   exact Y17
  ·obtain rfl:n=k:=by omega
   go_wp2
   go_ret
   refine⟨w.heap.size,rfl,⟨⟨by simp [intV,HL.out],fun _=>⟨_,rfl,Nat.le_refl _,HBK.out.lt,fun j u hu=>?_⟩⟩,Nat.le_refl _,by unfold maxLen;omega⟩,HB.out⟩
   exact Y59
theorem epochsL_any (os:List OpC) (w:World) (h:OpsIs w S A n c os) (hn:n<=4294967296) :
 Calls prog 56 #[.slice A n c] w fun x w'=>∃ g,x=.returned (.slice (some ⟨g,0,none⟩) n n)/\IntIs w' (From w.heap.size) (some ⟨g,0,none⟩) n n (os.map (·.epoch))/\Below w w w':=by
 obtain⟨ds,h1,h2,h3⟩:=h
 rw [<-h2.epochs]
 exact epochs_new A n c ds w h1.reads hn
theorem take3 (Q:Z) (a:Act) (hL:¬ S lb) (hU:∀ b,w0.heap.size<=b->S b) (hfr:Fr 109 a [(0,lb),(2,.slice A n cap),(4,bx)]) (h:Tk w0 w S lb bx l m A n cap os) (hn:n<=4294967296) (hat:I64 m.atN) (hQ:∀ a' w',Fr 109 a' [(0,lb),(2,.slice A n cap),(4,bx)]->Tk w0 w' S lb bx {l with next:=min l.next (max l.mN (Seam.upTo (os.map (·.epoch)) m.atN m.atE:Int))} m A n cap os->Q .normal a' w') :
 (part [1,1,0,0,1,1,1,1] (codeOf takeF)).wp prog Q a w:=by
 obtain⟨HT,HQ,HL,HU⟩:=J4 h hQ hL hU
 clear h hQ hL hU
 refine gg hfr fun t=>?_
 obtain⟨l1,hl1⟩:∃ l1,l1=({l with next:=min l.next (max l.mN (Seam.upTo (os.map (·.epoch)) m.atN m.atE:Int))}:LaneC):=⟨_,rfl⟩
 obtain⟨HE,HI⟩:=J2 hl1 hat
 clear hl1 hat
 refine wp_region_all kr (fun i v W=>match i with|0=>v=lb|1=>v=lb|2=>v=lb|3=>v=.pointer (some ⟨lb,7,none⟩)|4=>v=.int .i64 l.next\/v=.int .i64 l1.next|5=>v=lb|6=>v=lb|7=>v=lb|8=>v=lb|9=>v=lb|10=>v=.int .i64 l.mN|11=>v=.slice A n cap|12=>∃ g,v=.slice (some ⟨g,0,none⟩) n n/\IntIs W S (some ⟨g,0,none⟩) n n (os.map (·.epoch))|13=>v=.pointer (some ⟨bx,11,none⟩)|14=>v=.agg #[m.atN,m.atE]|15=>v=.int .i64 (Seam.upTo (os.map (·.epoch)) m.atN m.atE:Int)|16=>v=.int .i64 (max l.mN (Seam.upTo (os.map (·.epoch)) m.atN m.atE:Int))|17=>v=.int .i64 l1.next|18=>v=lb|19=>v=.pointer (some ⟨lb,7,none⟩)|20=>LaneIs W S lb l1|_=>True) (fun W=>Tk2 w0 W S lb bx l l1 m A n cap os) (fun W W'=>Turn lb W W'/\(LaneIs W S lb l1->LaneIs W' S lb l1)) kr ?hG ?hmono ?hstep ?hend
 case hG=>exact HT.out.drew.two
 case hmono=>
  intro i v W W' hx hv
  match i with
  | 12=>
   obtain⟨g,rfl,hi⟩:=hv
   exact⟨g,rfl,hi.kept (hx.1.kept HL.out)⟩
  | 20=>
   exact hx.2 hv
  | 0|1|2|3|4|5|6|7|8|9|10|11|13|14|15|16|17|18|19=>exact hv
  | i+21=>exact hv
 case hstep=>
  intro i o F U W ho hGW hat hoff hp
  have hrefl:=fun W:World=>(⟨Turn.refl _ _,fun h=>h⟩:Turn lb W W/\(LaneIs W S lb l1->LaneIs W S lb l1))
  match i with
   | 0=>cases ho;refine on_ (wanted_none rfl) ?_;have e0:=oo 0 lb;exact wp_move' (.tmp 0) rfl ⟨_,rfl,e0,hGW,hrefl W⟩
   | 1=>cases ho;refine on_ (wanted_none rfl) ?_;have e0:=oo 0 lb;exact wp_move' (.tmp 0) rfl ⟨_,rfl,e0,hGW,hrefl W⟩
   | 2=>
    cases ho;refine on_ (wanted_none rfl) ?_
    have e20:F.eval (.tmp 20)=.pointer (some ⟨lb,0,none⟩):=(hat 1 20 kd rfl).trans (hp ⟨1,.data⟩ (by simp) rfl:U 1=.pointer (some ⟨lb,0,none⟩))
    have t20:=act_tmp e20;clear hat hoff hp
    exact Y7
   | 3=>
    cases ho;refine on_ (wanted_none rfl) ?_
    have e21:F.eval (.tmp 21)=.pointer (some ⟨lb,0,none⟩):=(hat 2 21 kd rfl).trans (hp ⟨2,.data⟩ (by simp) rfl:U 2=.pointer (some ⟨lb,0,none⟩))
    have t21:=act_tmp e21;clear hat hoff hp
    exact Y31
   | 4=>
    cases ho;refine on_ (wanted_none rfl) ?_
    have e22:F.eval (.tmp 22)=.pointer (some ⟨lb,7,none⟩):=(hat 3 22 kd rfl).trans (hp ⟨3,.data⟩ (by simp) rfl:U 3=.pointer (some ⟨lb,7,none⟩))
    have t22:=act_tmp e22;clear hat hoff hp
    exact Y47
   | 5=>cases ho;refine on_ (wanted_none rfl) ?_;have e0:=oo 0 lb;exact wp_move' (.tmp 0) rfl ⟨_,rfl,e0,hGW,hrefl W⟩
   | 6=>
    cases ho;refine on_ (wanted_none rfl) ?_
    have e24:F.eval (.tmp 24)=.pointer (some ⟨lb,0,none⟩):=(hat 5 24 kd rfl).trans (hp ⟨5,.data⟩ (by simp) rfl:U 5=.pointer (some ⟨lb,0,none⟩))
    have t24:=act_tmp e24;clear hat hoff hp
    exact Y7
   | 7=>
    cases ho;refine on_ (wanted_none rfl) ?_
    have e25:F.eval (.tmp 25)=.pointer (some ⟨lb,0,none⟩):=(hat 6 25 kd rfl).trans (hp ⟨6,.data⟩ (by simp) rfl:U 6=.pointer (some ⟨lb,0,none⟩))
    have t25:=act_tmp e25;clear hat hoff hp
    exact Y7
   | 8=>
    cases ho;refine on_ (wanted_none rfl) ?_
    have e26:F.eval (.tmp 26)=.pointer (some ⟨lb,0,none⟩):=(hat 7 26 kd rfl).trans (hp ⟨7,.data⟩ (by simp) rfl:U 7=.pointer (some ⟨lb,0,none⟩))
    have t26:=act_tmp e26;clear hat hoff hp
    exact Y7
   | 9=>
    cases ho;refine on_ (wanted_none rfl) ?_
    have e27:F.eval (.tmp 27)=.pointer (some ⟨lb,0,none⟩):=(hat 8 27 kd rfl).trans (hp ⟨8,.data⟩ (by simp) rfl:U 8=.pointer (some ⟨lb,0,none⟩))
    have t27:=act_tmp e27;clear hat hoff hp
    exact Y7
   | 10=>
    cases ho;refine on_ (wanted_none rfl) ?_
    have e28:F.eval (.tmp 28)=.pointer (some ⟨lb,0,none⟩):=(hat 9 28 kd rfl).trans (hp ⟨9,.data⟩ (by simp) rfl:U 9=.pointer (some ⟨lb,0,none⟩))
    have t28:=act_tmp e28;clear hat hoff hp
    have c0:W.cell? ⟨lb,0,none⟩=some (.int .i64 l.mN):=by
     rcases hGW.lane with ⟨oA,on,oc,kl,ki⟩|⟨oA,on,oc,kl,ki⟩
     ·exact kl.cell 0
     ·rw [HE.out] at kl;exact kl.cell 0
    exact wp_value' (.int .i64 l.mN) W (by unfold execOp;go_simp) ⟨_,rfl,rfl,hGW,hrefl W⟩
   | 11=>cases ho;refine on_ (wanted_none rfl) ?_;have e2:=oo 2 (.slice A n cap);exact wp_move' (.tmp 2) rfl ⟨_,rfl,e2,hGW,hrefl W⟩
   | 12=>
    cases ho;refine on_ (wanted_none rfl) ?_
    have e30:F.eval (.tmp 30)=.slice A n cap:=(hat 11 30 kd rfl).trans (hp ⟨11,.data⟩ (by simp) rfl:U 11=.slice A n cap)
    have t30:=act_tmp e30;clear hat hoff hp
    refine wp_enter' 56 #[.slice A n cap] (by unfold execOp;go_simp) ?_
    refine (epochsL_any os W hGW.ops hn).mono ?_
    rintro e W' ⟨g,rfl,hi,hb⟩
    exact⟨_,rfl,_,rfl,⟨g,rfl,hi.mono fun b _ h=>HU.out b (Nat.le_trans hGW.turn.size h)⟩,hGW.below hb,Turn.of (Nat.le_of_lt hGW.lt) hb,fun h=>h.below hb⟩
   | 13=>
    exact Y44
   | 14=>
    cases ho;refine on_ (wanted_none rfl) ?_
    have e32:F.eval (.tmp 32)=.pointer (some ⟨bx,11,none⟩):=(hat 13 32 kd rfl).trans (hp ⟨13,.data⟩ (by simp) rfl:U 13=.pointer (some ⟨bx,11,none⟩))
    have t32:=act_tmp e32;clear hat hoff hp;obtain⟨eA,en,ec,hA,hn',hc,oA,on,oc,pA,pn,pc,kb,ko⟩:=hGW.box;obtain⟨d0,d1⟩:=kb.cs 11 2
    exact Y134
   | 15=>
    cases ho;refine on_ (wanted_none rfl) ?_;have e31:=hat 12 31 kd rfl
    have v31:=hp ⟨12,.data⟩ (by simp) rfl
    have e33:F.eval (.tmp 33)=.agg #[m.atN,m.atE]:=(hat 14 33 kd rfl).trans (hp ⟨14,.data⟩ (by simp) rfl:U 14=.agg #[m.atN,m.atE])
    have t33:=act_tmp e33;clear hat hoff hp;obtain⟨g,h31,hi⟩:=v31;rw [h31] at e31;have t31:=act_tmp e31
    refine wp_enter' 79 #[.slice (some ⟨g,0,none⟩) n n,.agg #[m.atN,m.atE]] (by unfold execOp;go_simp) ?_
    refine (next_any (some ⟨g,0,none⟩) n n (os.map (·.epoch)) W hi.1.reads hi.2.2 m.atN m.atE HI.out).mono ?_
    rintro e W' ⟨rfl,hb⟩
    exact⟨_,rfl,_,rfl,rfl,hGW.below hb,Turn.of (Nat.le_of_lt hGW.lt) hb,fun h=>h.below hb⟩
   | 16=>
    cases ho;refine on_ (wanted_none rfl) ?_
    have e29:F.eval (.tmp 29)=.int .i64 l.mN:=(hat 10 29 kd rfl).trans (hp ⟨10,.data⟩ (by simp) rfl:U 10=.int .i64 l.mN)
    have t29:=act_tmp e29
    have e34:F.eval (.tmp 34)=.int .i64 (Seam.upTo (os.map (·.epoch)) m.atN m.atE:Int):=(hat 15 34 kd rfl).trans (hp ⟨15,.data⟩ (by simp) rfl:U 15=.int .i64 (Seam.upTo (os.map (·.epoch)) m.atN m.atE:Int))
    have t34:=act_tmp e34;clear hat hoff hp
    have q:(if (Seam.upTo (os.map (·.epoch)) m.atN m.atE:Int) > l.mN then (Seam.upTo (os.map (·.epoch)) m.atN m.atE:Int) else l.mN)=max l.mN (Seam.upTo (os.map (·.epoch)) m.atN m.atE:Int):=by split<;>omega
    exact wp_value' (.int .i64 (if (Seam.upTo (os.map (·.epoch)) m.atN m.atE:Int) > l.mN then (Seam.upTo (os.map (·.epoch)) m.atN m.atE:Int) else l.mN)) W (by unfold execOp;go_simp) ⟨_,rfl,congrArg (Value.int .i64) q,hGW,hrefl W⟩
   | 17=>
    cases ho;refine on_ (wanted_none rfl) ?_;have e23:=hat 4 23 kd rfl
    have v23:=hp ⟨4,.data⟩ (by simp) rfl
    have e35:F.eval (.tmp 35)=.int .i64 (max l.mN (Seam.upTo (os.map (·.epoch)) m.atN m.atE:Int)):=(hat 16 35 kd rfl).trans (hp ⟨16,.data⟩ (by simp) rfl:U 16=.int .i64 (max l.mN (Seam.upTo (os.map (·.epoch)) m.atN m.atE:Int)))
    have t35:=act_tmp e35;clear hat hoff hp;obtain⟨X,hX⟩:∃ X,X=max l.mN (Seam.upTo (os.map (·.epoch)) m.atN m.atE:Int):=⟨_,rfl⟩;rw [<-hX] at t35;have hE:=HE.out;rw [<-hX] at hE;clear hX
    rcases v23 with h23|h23
    ·rw [h23] at e23
     have t23:=act_tmp e23
     have q:(if X<l.next then X else l.next)=l1.next:=by rw [hE];show _=min l.next X;split<;>omega
     exact wp_value' (.int .i64 (if X<l.next then X else l.next)) W (by unfold execOp;go_simp) ⟨_,rfl,congrArg (Value.int .i64) q,hGW,hrefl W⟩
    ·rw [h23] at e23
     have t23:=act_tmp e23
     have q:(if X<l1.next then X else l1.next)=l1.next:=by rw [hE];show (if X<min l.next X then X else min l.next X)=min l.next X;split<;>omega
     exact wp_value' (.int .i64 (if X<l1.next then X else l1.next)) W (by unfold execOp;go_simp) ⟨_,rfl,congrArg (Value.int .i64) q,hGW,hrefl W⟩
   | 18=>
    cases ho;refine on_ (wanted_none rfl) ?_
    have e19:F.eval (.tmp 19)=.pointer (some ⟨lb,0,none⟩):=(hat 0 19 kd rfl).trans (hp ⟨0,.data⟩ (by simp) rfl:U 0=.pointer (some ⟨lb,0,none⟩))
    have t19:=act_tmp e19;clear hat hoff hp
    exact Y7
   | 19=>
    cases ho;refine on_ (wanted_none rfl) ?_
    have e37:F.eval (.tmp 37)=.pointer (some ⟨lb,0,none⟩):=(hat 18 37 kd rfl).trans (hp ⟨18,.data⟩ (by simp) rfl:U 18=.pointer (some ⟨lb,0,none⟩))
    have t37:=act_tmp e37;clear hat hoff hp
    exact Y31
   | 20=>
    cases ho;refine on_ (wanted_none rfl) ?_
    have e38:F.eval (.tmp 38)=.pointer (some ⟨lb,7,none⟩):=(hat 19 38 kd rfl).trans (hp ⟨19,.data⟩ (by simp) rfl:U 19=.pointer (some ⟨lb,7,none⟩))
    have t38:=act_tmp e38
    have e36:F.eval (.tmp 36)=.int .i64 l1.next:=(hat 17 36 kd rfl).trans (hp ⟨17,.data⟩ (by simp) rfl:U 17=.int .i64 l1.next)
    have t36:=act_tmp e36;clear hat hoff hp
    have hnew:∀ l0:LaneC,l1={l0 with next:=l1.next}->LaneIs W S lb l0->LaneIs (W.setCell ⟨lb,7,none⟩ (.int .i64 l1.next)) S lb l1:=by
     rintro l0 e0 ⟨oA,on,oc,kl,ki⟩
     have ht:=setCell_turn lb 7 (.int .i64 l1.next) W;rw [e0];exact⟨oA,on,oc,kl.set_ 7 _,ki.kept (ht.kept HL.out)⟩
    exact Y24
   | i+21=>exact absurd ho (by simp)
 case hend=>
  intro U W hGW hV
  have hl1:LaneIs W S lb l1:=hV 20 kd
  have hk:=hGW.one hl1
  exact Y70
end
def goodS1 (l:LaneC) (m:MailC) (os:List OpC):LaneC:=
 if (decide (0<m.atN)&&hasB os m.atN m.atE)=true then {l.further m.atN m.atE with next:=max l.next m.atN} else l
def goodS2 (l1:LaneC) (m:MailC) (os:List OpC):LaneC:=
 if (hasB os m.whN m.whE&&decide (l1.wN<=m.whN))=true then {l1 with wN:=m.whN,wE:=m.whE,holes:=m.holes} else l1
def goodS (l:LaneC) (m:MailC) (os:List OpC):LaneC:=goodS2 (goodS1 l m os) m os
def rightS (l:LaneC) (m:MailC) (os:List OpC):LaneC:=
 if m.epoch=l.epoch then (if m.good then goodS l m os else {l with next:=min l.next (max l.mN (Seam.upTo (os.map (·.epoch)) m.atN m.atE:Int))}) else l
def takeS (l:LaneC) (m:MailC) (os:List OpC):LaneC:=if m.kind=10/\m.right10=true then rightS l m os else l
def takeR (m:MailC):Int:=if m.kind=10/\m.right10=true then m.epoch else 0
section
variable {l:LaneC} {os:List OpC} {m:MailC} {bx cap lb n:Nat} {S:Nat->Prop} {A:O} {w w0:World}
theorem further_next (l:LaneC) (N E:Int):(l.further N E).next=l.next:=by unfold LaneC.further;split<;>rfl
theorem take_good (Q:Z) (a:Act) (hL:¬ S lb) (hU:∀ b,w0.heap.size<=b->S b) (hfr:Fr 109 a [(0,lb),(2,.slice A n cap),(4,bx)]) (h:Tk w0 w S lb bx l m A n cap os) (hn:n<=4294967296) (hz:m.holes.length*8<=140737488351232) (hQ:∀ a' w',Fr 109 a' [(0,lb),(2,.slice A n cap),(4,bx)]->Tk w0 w' S lb bx (goodS l m os) m A n cap os->Q .normal a' w') :
 (part [1,1,0,0,1,1,1,0] (codeOf takeF)).wp prog Q a w:=by
 have HQ:=J hQ
 clear hQ
 refine Wt ?_
 have second:∀ (l1:LaneC) (a:Act) (w:World),Fr 109 a [(0,lb),(2,.slice A n cap),(4,bx)]->Tk w0 w S lb bx l1 m A n cap os->
  goodS1 l m os=l1->
  (part [1,1,0,0,1,1,1,0,1] (codeOf takeF)).wp prog Q a w:=by
  intro l1 a w hfr h hg
  refine Wt ?_
  refine take9 _ a hL hU hfr h hn fun a' w' hfr' h'=>?_
  show (part [1,1,0,0,1,1,1,0,1,1] (codeOf takeF)).wp prog Q a' w'
  refine wp_if (x:=part [1,1,0,0,1,1,1,0,1,1,0] (codeOf takeF)) (y:=part [1,1,0,0,1,1,1,0,1,1,1] (codeOf takeF)) (o:=.tmp 96) kr (eval_at hfr'.2.2.2.2.2.1 rfl) (fun ht=>?_) (fun ht=>?_)
  ·refine take10 Q a' hL hU ⟨hfr'.1,hfr'.2.1,hfr'.2.2.1,hfr'.2.2.2.1,hfr'.2.2.2.2.1,trivial⟩ h' hz fun a2 w2 hf2 h2=>HQ.out a2 w2 hf2 ?_
   unfold goodS goodS2
   rw [hg,if_pos ht]
   exact h2
  ·refine wp_nop kr (HQ.out a' w' ⟨hfr'.1,hfr'.2.1,hfr'.2.2.1,hfr'.2.2.2.1,hfr'.2.2.2.2.1,trivial⟩ ?_)
   unfold goodS goodS2
   rw [hg,if_neg (by rw [ht];exact Bool.false_ne_true)]
   exact h'
 refine Wt ?_
 refine take6 _ a hL hU hfr h hn fun a' w' hfr' h'=>?_
 show (part [1,1,0,0,1,1,1,0,0,1] (codeOf takeF)).wp prog (Exit.then ((part [1,1,0,0,1,1,1,0,1] (codeOf takeF)).wp prog Q) Q) a' w'
 refine wp_if (x:=part [1,1,0,0,1,1,1,0,0,1,0] (codeOf takeF)) (y:=part [1,1,0,0,1,1,1,0,0,1,1] (codeOf takeF)) (o:=.tmp 60) kr (eval_at hfr'.2.2.2.2.2.1 rfl) (fun ht=>?_) (fun ht=>?_)
 ·refine Wt ?_
  refine take7 _ a' hL hU ⟨hfr'.1,hfr'.2.1,hfr'.2.2.1,hfr'.2.2.2.1,hfr'.2.2.2.2.1,trivial⟩ h' fun a2 w2 hf2 h2=>?_
  show (part [1,1,0,0,1,1,1,0,0,1,0,1] (codeOf takeF)).wp prog (Exit.then ((part [1,1,0,0,1,1,1,0,1] (codeOf takeF)).wp prog Q) Q) a2 w2
  refine take8 _ a2 hL hU hf2 h2 fun a3 w3 hf3 h3=>?_
  refine second _ a3 w3 hf3 h3 ?_
  unfold goodS1
  rw [if_pos ht,further_next]
 ·refine wp_nop kr ?_
  refine second l a' w' ⟨hfr'.1,hfr'.2.1,hfr'.2.2.1,hfr'.2.2.2.1,hfr'.2.2.2.2.1,trivial⟩ h' ?_
  unfold goodS1
  rw [if_neg (by rw [ht];exact Bool.false_ne_true)]
end
section
variable {l:LaneC} {os:List OpC} {m:MailC} {bx cap lb n:Nat} {S:Nat->Prop} {A:O} {w w0:World}
section
variable (Q:Z) (a:Act) (hL:¬ S lb) (hU:∀ b,w0.heap.size<=b->S b) (hfr:Fr 109 a [(0,lb),(2,.slice A n cap),(4,bx)]) (h:Tk w0 w S lb bx l m A n cap os)
include Q a hL hU hfr h
theorem take4 (hQ:∀ a' w',Fr 109 a' [(0,lb),(2,.slice A n cap),(4,bx),(39,.bool (m.epoch != l.epoch))]->Tk w0 w' S lb bx l m A n cap os->Q .normal a' w') :
 (part [1,1,0,0,0] (codeOf takeF)).wp prog Q a w:=by
 obtain⟨HT,HQ,HL,HU⟩:=J4 h hQ hL hU
 clear h hQ hL hU
 refine gg hfr fun t=>?_
 cases hd:(m.epoch != l.epoch) with
 | true=>
  have hd':=hd
  have HD:=J hd
  clear hd
  refine wp_region_all kr (fun i v W=>match i with|0=>v=.pointer (some ⟨bx,9,none⟩)|1=>v=m.epoch|2=>v=lb|3=>v=lb|4=>v=.pointer (some ⟨lb,5,none⟩)|5=>v=l.epoch|6=>v=.bool true|7=>v=.bool true|_=>True) (fun W=>Tk w0 W S lb bx l m A n cap os/\True) (fun W W'=>True) kr ?hG ?hmono ?hstep ?hend
  case hG=>exact⟨HT.out.drew,trivial⟩
  case hmono=>exact fun _ _ _ _ _ h=>h
  case hstep=>
   intro i o F U W ho hGW hat hoff hp
   have hrefl:=fun _:World=>trivial
   match i with
    | 0=>
     cases ho;refine on_ (wanted_none rfl) ?_;have e4:=oo 4 bx;have t4:=act_tmp e4;clear hat hoff hp
     exact Y124
    | 1=>
     exact Y32
    | 2=>cases ho;refine on_ (wanted_none rfl) ?_;have e0:=oo 0 lb;exact wp_move' (.tmp 0) rfl ⟨_,rfl,e0,hGW,hrefl W⟩
    | 3=>
     exact Y152
    | 4=>
     exact Y151
    | 5=>
     exact Y37
    | 6=>
     cases ho;refine on_ (wanted_none rfl) ?_
     have e41:F.eval (.tmp 41)=.int .i64 m.epoch:=(hat 1 41 kd rfl).trans (hp ⟨1,.data⟩ (by simp) rfl:U 1=.int .i64 m.epoch)
     have t41:=act_tmp e41
     have e45:F.eval (.tmp 45)=.int .i64 l.epoch:=(hat 5 45 kd rfl).trans (hp ⟨5,.data⟩ (by simp) rfl:U 5=.int .i64 l.epoch)
     have t45:=act_tmp e45;clear hat hoff hp
     exact Y98
    | 7=>
     cases ho;refine on_ (wanted_none rfl) ?_
     have e46:F.eval (.tmp 46)=.bool true:=(hat 6 46 kd rfl).trans (hp ⟨6,.data⟩ (by simp) rfl:U 6=.bool true)
     exact wp_assign' (.tmp 46) rfl ⟨_,rfl,e46,hGW,hrefl W⟩
    | i+8=>exact absurd ho (by simp)
  case hend=>
   intro U W hGW hV
   have h39:U 7=.bool true:=hV 7 kd
   exact Y99
 | false=>
  have hd':=hd
  have HD:=J hd
  clear hd
  refine wp_region_all kr (fun i v W=>match i with|0=>v=.pointer (some ⟨bx,9,none⟩)|1=>v=m.epoch|2=>v=lb|3=>v=lb|4=>v=.pointer (some ⟨lb,5,none⟩)|5=>v=l.epoch|6=>v=.bool false|7=>v=.bool false|_=>True) (fun W=>Tk w0 W S lb bx l m A n cap os/\True) (fun W W'=>True) kr ?hG ?hmono ?hstep ?hend
  case hG=>exact⟨HT.out.drew,trivial⟩
  case hmono=>exact fun _ _ _ _ _ h=>h
  case hstep=>
   intro i o F U W ho hGW hat hoff hp
   have hrefl:=fun _:World=>trivial
   match i with
    | 0=>
     cases ho;refine on_ (wanted_none rfl) ?_;have:=ot 4 bx;clear hat hoff hp
     exact Y124
    | 1=>
     exact Y32
    | 2=>cases ho;refine on_ (wanted_none rfl) ?_;have e0:=oo 0 lb;exact wp_move' (.tmp 0) rfl ⟨_,rfl,e0,hGW,hrefl W⟩
    | 3=>
     exact Y152
    | 4=>
     exact Y151
    | 5=>
     exact Y37
    | 6=>
     cases ho;refine on_ (wanted_none rfl) ?_
     have e41:F.eval (.tmp 41)=.int .i64 m.epoch:=(hat 1 41 kd rfl).trans (hp ⟨1,.data⟩ (by simp) rfl:U 1=.int .i64 m.epoch)
     have t41:=act_tmp e41
     have e45:F.eval (.tmp 45)=.int .i64 l.epoch:=(hat 5 45 kd rfl).trans (hp ⟨5,.data⟩ (by simp) rfl:U 5=.int .i64 l.epoch)
     have t45:=act_tmp e45;clear hat hoff hp
     exact Y52
    | 7=>
     cases ho;refine on_ (wanted_none rfl) ?_
     have e46:F.eval (.tmp 46)=.bool false:=(hat 6 46 kd rfl).trans (hp ⟨6,.data⟩ (by simp) rfl:U 6=.bool false)
     exact wp_assign' (.tmp 46) rfl ⟨_,rfl,e46,hGW,hrefl W⟩
    | i+8=>exact absurd ho (by simp)
  case hend=>
   intro U W hGW hV
   have h39:U 7=.bool false:=hV 7 kd
   exact Y99
theorem take5 (hQ:∀ a' w',Fr 109 a' [(0,lb),(2,.slice A n cap),(4,bx),(47,.bool m.good)]->Tk w0 w' S lb bx l m A n cap os->Q .normal a' w') :
 (part [1,1,0,0,1,1,0] (codeOf takeF)).wp prog Q a w:=by
 obtain⟨HT,HQ,HL,HU⟩:=J4 h hQ hL hU
 clear h hQ hL hU
 refine gg hfr fun t=>?_
 obtain⟨eA,en,ec,hA,hn',hc,oA,on,oc,pA,pn,pc,kb,ko⟩:=HT.out.box
 have c5:=kb.c1 5
 clear kb ko
 go_wp2_with fail
 exact HQ.out _ _ ff HT.out
end
section
variable (R:Ending->World->Prop) (a:Act)
include R a
theorem take11 (hfr:Fr 109 a [(0,lb),(2,.slice A n cap),(4,bx)]) (h:Tk w0 w S lb bx l m A n cap os) (hR:R (.returned (.int .i64 m.epoch)) w) :
 (part [1,1,1] (codeOf takeF)).wp prog (bodyPost prog takeF R) a w:=by
 have HR:=J hR
 obtain⟨eA,en,ec,hA,hn',hc,oA,on,oc,pA,pn,pc,kb,ko⟩:=h.box
 have c9:=kb.c1 9
 clear kb ko h hR
 refine gg hfr fun t=>?_
 go_wp2_with fail
 exact HR.out
theorem take_tail (hL:¬ S lb) (hU:∀ b,w0.heap.size<=b->S b) (hfr:Fr 109 a [(0,lb),(2,.slice A n cap),(4,bx)]) (h:Tk w0 w S lb bx l m A n cap os) (hn:n<=4294967296) (hz:m.holes.length*8<=140737488351232) (hat:I64 m.atN) (hR:∀ w',LaneIs w' S lb (rightS l m os)->Turn lb w0 w'->R (.returned (.int .i64 m.epoch)) w') :
 (part [1,1] (codeOf takeF)).wp prog (bodyPost prog takeF R) a w:=by
 have HR:=J hR
 clear hR
 have fin:∀ (a:Act) (w:World),Fr 109 a [(0,lb),(2,.slice A n cap),(4,bx)]->Tk w0 w S lb bx (rightS l m os) m A n cap os->(part [1,1,1] (codeOf takeF)).wp prog (bodyPost prog takeF R) a w:=
  fun a w hf hk=>take11 R a hf hk (HR.out w hk.lane hk.turn)
 refine Wt ?_
 refine wp_blk (x:=part [1,1,0,0] (codeOf takeF)) (id:=0) kr ?_
 refine Wt ?_
 refine take4 _ a hL hU hfr h fun a1 w1 hf1 h1=>?_
 have hF1:Fr 109 a1 [(0,lb),(2,.slice A n cap),(4,bx)]:=⟨hf1.1,hf1.2.1,hf1.2.2.1,hf1.2.2.2.1,hf1.2.2.2.2.1,trivial⟩
 show (part [1,1,0,0,1] (codeOf takeF)).wp prog (Exit.inBlock 0 (Exit.then ((part [1,1,1] (codeOf takeF)).wp prog (bodyPost prog takeF R)) (bodyPost prog takeF R))) a1 w1
 refine wp_if (x:=part [1,1,0,0,1,0] (codeOf takeF)) (y:=part [1,1,0,0,1,1] (codeOf takeF)) (o:=.tmp 39) kr (eval_at hf1.2.2.2.2.2.1 rfl) (fun ht=>?_) (fun ht=>?_)
 ·refine wp_nop kr ?_
  refine fin a1 w1 hF1 ?_
  have e:rightS l m os=l:=by
   unfold rightS
   rw [if_neg (by simpa using ht)]
  rw [e]
  exact h1
 ·have he:m.epoch=l.epoch:=by simpa using ht
  refine Wt ?_
  refine take5 _ a1 hL hU hF1 h1 fun a2 w2 hf2 h2=>?_
  have hF2:Fr 109 a2 [(0,lb),(2,.slice A n cap),(4,bx)]:=⟨hf2.1,hf2.2.1,hf2.2.2.1,hf2.2.2.2.1,hf2.2.2.2.2.1,trivial⟩
  show (part [1,1,0,0,1,1,1] (codeOf takeF)).wp prog (Exit.inBlock 0 (Exit.then ((part [1,1,1] (codeOf takeF)).wp prog (bodyPost prog takeF R)) (bodyPost prog takeF R))) a2 w2
  refine wp_if (x:=part [1,1,0,0,1,1,1,0] (codeOf takeF)) (y:=part [1,1,0,0,1,1,1,1] (codeOf takeF)) (o:=.tmp 47) kr (eval_at hf2.2.2.2.2.2.1 rfl) (fun hg=>?_) (fun hg=>?_)
  ·refine take_good _ a2 hL hU hF2 h2 hn hz fun a3 w3 hf3 h3=>fin a3 w3 hf3 ?_
   have e:rightS l m os=goodS l m os:=by
    unfold rightS
    rw [if_pos he,if_pos hg]
   rw [e]
   exact h3
  ·refine take3 _ a2 hL hU hF2 h2 hn hat fun a3 w3 hf3 h3=>fin a3 w3 hf3 ?_
   have e:rightS l m os={l with next:=min l.next (max l.mN (Seam.upTo (os.map (·.epoch)) m.atN m.atE:Int))}:=by
    unfold rightS
    rw [if_pos he,if_neg (by rw [hg];exact Bool.false_ne_true)]
   rw [e]
   exact h3
end
theorem takeL_any (lb:Nat) (l:LaneC) (cells:Array Value) (m:MailC) (os:List OpC) (w:World) (hL:¬ S lb) (hU:∀ b,w.heap.size<=b->S b) (hl:LaneIs w S lb l) (hm:MailIs w S cells m) (hok:m.Ok) (ho:OpsIs w S A n cap os) (hn:n<=4294967296) :
 Calls prog 28 #[.pointer (some ⟨lb,0,none⟩),.agg cells,.slice A n cap] w fun x w'=>x=.returned (.int .i64 (takeR m))/\LaneIs w' S lb (takeS l m os)/\Turn lb w w':=by
 have hm0:=hm
 obtain⟨eA,en,ec,hA,hn',hc,oA,on,oc,pA,pn,pc,rfl,hm1,hm2,hm3,hm4⟩:=hm0
 have hbl:Below w w (w.alloc (.cells (mailC m.kind m.term m.index m.prev m.commit m.good eA en ec m.data hA hn' hc m.epoch m.site m.atN m.atE m.whN m.whE oA on oc pA pn pc) 30)):=(Below.refl _ _).alloc (Nat.le_refl _) _
 have hbk:=Blk.new w 30 (mailC m.kind m.term m.index m.prev m.commit m.good eA en ec m.data hA hn' hc m.epoch m.site m.atN m.atE m.whN m.whE oA on oc pA pn pc)
 have htk:Tk w (w.alloc (.cells (mailC m.kind m.term m.index m.prev m.commit m.good eA en ec m.data hA hn' hc m.epoch m.site m.atN m.atE m.whN m.whE oA on oc pA pn pc) 30)) S lb w.heap.size l m A n cap os:=
  ⟨hl.below hbl,⟨eA,en,ec,hA,hn',hc,oA,on,oc,pA,pn,pc,hbk,hm3.below hbl⟩,hU _ (Nat.le_refl _),ho.below hbl,Turn.of (Nat.le_of_lt hl.lt) hbl⟩
 have HT:=J htk
 have HM:=J (hm.below hbl)
 obtain⟨HOK,HL,HU,HZ,HAT⟩:=J5 hok hL hU hok.holes hok.atN
 have c:=fun k=>hbk.cell k
 have c0:=c 0
 have c1:=c 1
 have c2:=c 2
 have c3:=c 3
 have c4:=c 4
 have c5:=c 5
 have c6:=c 6
 have c7:=c 7
 have c8:=c 8
 have c9:=c 9
 have c10:=c 10
 have c11:=c 11
 have c12:=c 12
 have c13:=c 13
 have c14:=c 14
 have c15:=c 15
 have c16:=c 16
 simp at c0 c1 c2 c3 c4 c5 c6 c7 c8 c9 c10 c11 c12 c13 c14 c15 c16
 clear c hL hU hl hm hok ho hm1 hm2 hm3 hm4 hbl hbk htk
 by_cases hk:m.kind=10
 ·have hk1:(m.kind != 10)=false:=by simp [hk]
  have HK:=J hk
  clear hk
  go_enter func28,ntmps28
  conv=>arg 2;arg 2;arg 2;change part [1,1] (codeOf takeF)
  go_wp2_with fail
  refine (check10_any _ m _ HK.out HM.out HOK.out).mono ?_
  rintro e w1 ⟨rfl,hb1⟩
  have HT1:=J (HT.out.below hb1)
  clear hb1 c0 c1 c2 c3 c4 c5 c6 c7 c8 c9 c10 c11 c12 c13 c14 c15 c16
  cases hr:m.right10 with
  | true=>
   have HR:=J hr
   clear hr
   go_wp2_with fail
   refine take_tail _ _ HL.out HU.out ff HT1.out hn HZ.out HAT.out fun w' h1 h2=>?_
   have e1:takeR m=m.epoch:=by unfold takeR;rw [if_pos ⟨HK.out,HR.out⟩]
   have e2:takeS l m os=rightS l m os:=by unfold takeS;rw [if_pos ⟨HK.out,HR.out⟩]
   rw [e1,e2]
   exact⟨rfl,h1,h2⟩
  | false=>
   have HR:=J hr
   clear hr
   go_wp2_with fail
   go_ret
   have e1:takeR m=0:=by unfold takeR;rw [if_neg (by rw [HR.out];simp)]
   have e2:takeS l m os=l:=by unfold takeS;rw [if_neg (by rw [HR.out];simp)]
   rw [e1,e2]
   exact⟨rfl,HT1.out.lane,HT1.out.turn⟩
 ·have hk1:(m.kind != 10)=true:=by simp [hk]
  have HK:=J hk
  clear hk
  go_enter func28,ntmps28
  conv=>arg 2;arg 2;arg 2;change part [1,1] (codeOf takeF)
  go_wp2_with fail
  go_ret
  have e1:takeR m=0:=by unfold takeR;rw [if_neg (by simp [HK.out])]
  have e2:takeS l m os=l:=by unfold takeS;rw [if_neg (by simp [HK.out])]
  rw [e1,e2]
  exact⟨rfl,HT.out.lane,HT.out.turn⟩
end
end Go.Proofs.Ytaipgdhdfpemcaa
