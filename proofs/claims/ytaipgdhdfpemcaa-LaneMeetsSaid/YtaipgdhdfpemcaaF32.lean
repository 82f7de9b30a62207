/- THE WALKS OF THE LANE, part 32. -/
import Derived.Test.YtaipgdhdfpemcaaF10
import Derived.Test.YtaipgdhdfpemcaaF11
namespace Go.Proofs.Ytaipgdhdfpemcaa
set_option linter.all false
open Go.RowKit Go.Proofs.Try
set_option maxRecDepth 100000
set_option maxHeartbeats 4000000
def Turn (g:Nat) (w w':World):Prop:=Save g w w'/\Below g w w'
section
variable {g:Nat} {w w' w'':World}
theorem eta109 (t:Array Value) (h:t.size=109):t=#[at_ t 0,at_ t 1,at_ t 2,at_ t 3,at_ t 4,at_ t 5,at_ t 6,at_ t 7,at_ t 8,at_ t 9,at_ t 10,at_ t 11,at_ t 12,at_ t 13,at_ t 14,at_ t 15,at_ t 16,at_ t 17,at_ t 18,at_ t 19,at_ t 20,at_ t 21,at_ t 22,at_ t 23,at_ t 24,at_ t 25,at_ t 26,at_ t 27,at_ t 28,at_ t 29,at_ t 30,at_ t 31,at_ t 32,at_ t 33,at_ t 34,at_ t 35,at_ t 36,at_ t 37,at_ t 38,at_ t 39,at_ t 40,at_ t 41,at_ t 42,at_ t 43,at_ t 44,at_ t 45,at_ t 46,at_ t 47,at_ t 48,at_ t 49,at_ t 50,at_ t 51,at_ t 52,at_ t 53,at_ t 54,at_ t 55,at_ t 56,at_ t 57,at_ t 58,at_ t 59,at_ t 60,at_ t 61,at_ t 62,at_ t 63,at_ t 64,at_ t 65,at_ t 66,at_ t 67,at_ t 68,at_ t 69,at_ t 70,at_ t 71,at_ t 72,at_ t 73,at_ t 74,at_ t 75,at_ t 76,at_ t 77,at_ t 78,at_ t 79,at_ t 80,at_ t 81,at_ t 82,at_ t 83,at_ t 84,at_ t 85,at_ t 86,at_ t 87,at_ t 88,at_ t 89,at_ t 90,at_ t 91,at_ t 92,at_ t 93,at_ t 94,at_ t 95,at_ t 96,at_ t 97,at_ t 98,at_ t 99,at_ t 100,at_ t 101,at_ t 102,at_ t 103,at_ t 104,at_ t 105,at_ t 106,at_ t 107,at_ t 108]:=(eta_ t h).trans kr
theorem Turn.refl (g:Nat) (w:World):Turn g w w:=⟨fun _ _ _=>rfl,Below.refl _ _⟩
theorem Turn.size (h:Turn g w w'):w.heap.size<=w':=h.2.size
theorem Turn.trans (h:Turn g w w') (h':Turn g w' w''):Turn g w w'':=⟨h.1.trans h.2.size h'.1,h.2.trans h'.2⟩
theorem Turn.of (hg:g<=w) (h:Below w w w'):Turn g w w':=⟨Save.of h,h.mono hg⟩
theorem Turn.next (h:Turn g w w') (hg:g<=w') (hb:Below w'.heap.size w' w''):Turn g w w'':=h.trans (Turn.of hg hb)
end
def BoxIs (w:World) (S:Nat->Prop) (b:Nat) (m:MailC):Prop:=
 ∃ eA en ec hA hn hc oA on oc pA pn pc,Blk w b 30 (mailC m.kind m.term m.index m.prev m.commit m.good eA en ec m.data hA hn hc m.epoch m.site m.atN m.atE m.whN m.whE oA on oc pA pn pc)/\IntIs w S oA on oc m.holes
section
variable {m:MailC} {b:Nat} {S:Nat->Prop} {w w':World}
theorem BoxIs.below (h:BoxIs w S b m) (hb:Below w w w'):BoxIs w' S b m:=by
 obtain⟨eA,en,ec,hA,hn,hc,oA,on,oc,pA,pn,pc,h1,h2⟩:=h
 exact⟨eA,en,ec,hA,hn,hc,oA,on,oc,pA,pn,pc,h1.below hb h1.lt,h2.below hb⟩
theorem BoxIs.kept (h:BoxIs w S b m) (hk:Kept S w w') (hb:S b):BoxIs w' S b m:=by
 obtain⟨eA,en,ec,hA,hn,hc,oA,on,oc,pA,pn,pc,h1,h2⟩:=h
 exact⟨eA,en,ec,hA,hn,hc,oA,on,oc,pA,pn,pc,(hk.2 b hb h1.lt).trans h1,h2.kept hk⟩
end
structure Tk (w0 w:World) (S:Nat->Prop) (lb bx:Nat) (l:LaneC) (m:MailC) (A:O) (n cap:Nat) (os:List OpC):Prop where
 lane:LaneIs w S lb l
 box:BoxIs w S bx m
 bxS:S bx
 ops:OpsIs w S A n cap os
 turn:Turn lb w0 w
section
variable {w0 w w':World} {S:Nat->Prop} {lb bx:Nat} {l l':LaneC} {m:MailC} {A:O} {n cap:Nat} {os:List OpC}
section
variable (h:Tk w0 w S lb bx l m A n cap os)
include h
theorem Tk.below (hb:Below w w w'):Tk w0 w' S lb bx l m A n cap os:=
 ⟨h.lane.below hb,h.box.below hb,h.bxS,h.ops.below hb,h.turn.next (Nat.le_of_lt h.lane.lt) hb⟩
theorem Tk.drew:Tk w0 w.drew S lb bx l m A n cap os:=h.below ⟨rfl,rfl,rfl,Nat.le_refl _,fun _ _=>rfl⟩
theorem Tk.drewN (k:Nat):Tk w0 (w.drewN k) S lb bx l m A n cap os:=h.below ⟨rfl,rfl,rfl,Nat.le_refl _,fun _ _=>rfl⟩
theorem Tk.turned (hL:¬ S lb) (ht:Turn lb w w') (hl:LaneIs w' S lb l'):Tk w0 w' S lb bx l' m A n cap os:=by
 exact Y136
end
end
structure Tk2 (w0 w:World) (S:Nat->Prop) (lb bx:Nat) (l l1:LaneC) (m:MailC) (A:O) (n cap:Nat) (os:List OpC):Prop where
 lane:LaneIs w S lb l\/LaneIs w S lb l1
 box:BoxIs w S bx m
 bxS:S bx
 ops:OpsIs w S A n cap os
 turn:Turn lb w0 w
section
variable {w0 w w':World} {S:Nat->Prop} {lb bx:Nat} {l l1:LaneC} {m:MailC} {A:O} {n cap:Nat} {os:List OpC}
section
variable (h:Tk2 w0 w S lb bx l l1 m A n cap os)
include h
theorem Tk2.lt:lb<w:=by rcases h.lane with h|h<;>exact h.lt
theorem Tk2.below (hb:Below w w w'):Tk2 w0 w' S lb bx l l1 m A n cap os:=
 ⟨h.lane.imp (·.below hb) (·.below hb),h.box.below hb,h.bxS,h.ops.below hb,h.turn.next (Nat.le_of_lt h.lt) hb⟩
theorem Tk2.turned (hL:¬ S lb) (ht:Turn lb w w') (hl:LaneIs w' S lb l1):Tk2 w0 w' S lb bx l l1 m A n cap os:=by
 exact Y128
end
end
section
variable {cs:Array Value} {b c g n:Nat} {S:Nat->Prop} {A:O} {t:TypeId} {w w':World}
theorem Turn.kept (h:Turn g w w') (hg:¬ S g):Kept S w w':=⟨h.size,fun b h1 h2=>h.1 b h2 (by rintro rfl;exact hg h1)⟩
theorem Turn.blk (h:Turn g w w') (hb:Blk w b t cs) (hne:b≠g):Blk w' b t cs:=(h.1 b hb.lt hne).trans hb
theorem OpsV.epochs:∀ {ds:List Opd} {cs:List OpC},OpsV w S ds cs->ds.map (·.epoch)=cs.map (·.epoch)
 | [],[],_=>rfl
 | o::ds,c::cs,h=>by
  obtain⟨A,n,cap,e,_⟩:=h.1
  subst e
  simp only [List.map_cons,OpsV.epochs h.2,OpC.at_]
 | [],_::_,h=>h.elim
 | _::_,[],h=>h.elim
theorem epochs_new (A:O) (n c:Nat) (os:List Opd) (w:World) (h:Reads w w.heap.size 9 A n (opsV os)) (hn:n<=4294967296) :
 Calls prog 56 #[.slice A n c] w fun x w'=>∃ g,x=.returned (.slice (some ⟨g,0,none⟩) n n)/\IntIs w' (From w.heap.size) (some ⟨g,0,none⟩) n n (os.map (·.epoch))/\Below w w w':=by
 have hlen:=ops_len h
 obtain⟨HR,HL⟩:=J2 h hlen
 clear h hlen
 have hmk:=run_make_row' (P:=prog) 27 3 (.int .i64 0) 8 underlying27 Try.infoInt rfl .i64 .i64 n (w:=w) (by omega) (by omega)
 go_enter func56,ntmps56
 go_wp2_with fail
 have hbk:=Blk.new w 3 (madeCells #[.int .i64 0] n)
 have hb0:Below w w (w.alloc (.cells (madeCells #[.int .i64 0] n) 3)):=(Below.refl _ _).alloc (Nat.le_refl _) _
 obtain⟨W,hW⟩:∃ W,W=w.alloc (.cells (madeCells #[.int .i64 0] n) 3):=⟨_,rfl⟩
 rw [<-hW]
 rw [<-hW] at hb0 hbk
 have hsz:(madeCells #[.int .i64 0] n).size=n:=by simp [madeCells]
 obtain⟨c0,hc0⟩:∃ c0,c0=madeCells #[.int .i64 0] n:=⟨_,rfl⟩
 rw [<-hc0] at hbk hsz
 obtain⟨HB0,HBK⟩:=J2 hb0 hbk
 clear hW hc0 hmk hb0 hbk
 go_loopw [11] (fun i wr=>∃ (k:Nat) (cu:Array Value),k<=n/\i=.int .i64 k/\cu.size=n/\Blk wr w 3 cu/\(∀ j,j<k->cu[j]? = (intV .i64 (os.map (·.epoch)))[j]?)/\Below w w wr) (fun i _=>n-(intOf i).toNat)
 case atStart=>exact⟨0,c0,by omega,rfl,hsz,HBK.out,fun j hj=>absurd hj (by omega),HB0.out⟩
 case round=>
  obtain⟨k,cu,hk,rfl,hcs,hbk,hcu,hb⟩:=hrel
  obtain⟨HCU,HBK,HB,HCS⟩:=J4 hcu hbk hb hcs
  clear hcu hbk hb hcs hsz
  rcases Nat.lt_or_ge k n with hk1|hk1
  ·obtain⟨ad,o,rfl,hab,ho,hop⟩:=op_at (HR.out.below HB.out) hk1
   exact Y22
  ·obtain rfl:n=k:=by omega
   go_wp2
   go_ret
   refine⟨w.heap.size,rfl,⟨⟨by simp [intV,HL.out],fun _=>⟨_,rfl,Nat.le_refl _,HBK.out.lt,fun j u hu=>?_⟩⟩,Nat.le_refl _,by unfold maxLen;omega⟩,HB.out⟩
   exact Y82
theorem epochsL_any (os:List OpC) (w:World) (h:OpsIs w S A n c os) (hn:n<=4294967296) :
 Calls prog 56 #[.slice A n c] w fun x w'=>∃ g,x=.returned (.slice (some ⟨g,0,none⟩) n n)/\IntIs w' (From w.heap.size) (some ⟨g,0,none⟩) n n (os.map (·.epoch))/\Below w w w':=by
 obtain⟨ds,h1,h2,h3⟩:=h
 rw [<-h2.epochs]
 exact epochs_new A n c ds w h1.reads hn
end
@[reducible] def rlaneC (mN mE wN wE:Int) (oA:O) (on oc:Nat) (epoch site next:Int):Array Value:=
 #[epoch,site,next,mN,mE,wN,wE,.slice oA on oc]
def RefIs (w:World) (S:Nat->Prop) (b:Nat) (l:LaneC):Prop:=
 ∃ oA on oc,Blk w b 87 (rlaneC l.mN l.mE l.wN l.wE oA on oc l.epoch l.site l.next)/\IntIs w S oA on oc l.holes
section
variable {w w':World} {S S':Nat->Prop} {b:Nat} {l:LaneC}
section
variable (h:RefIs w S b l)
include h
theorem RefIs.below (hb:Below w w w'):RefIs w' S b l:=by
 obtain⟨oA,on,oc,h1,h2⟩:=h
 exact⟨oA,on,oc,h1.below hb h1.lt,h2.below hb⟩
theorem RefIs.lt:b<w:=by
 obtain⟨oA,on,oc,h1,h2⟩:=h
 exact h1.lt
theorem RefIs.kept (hk:Kept S w w') (hb:w'.heap[b]? = w.heap[b]?):RefIs w' S b l:=by
 obtain⟨oA,on,oc,h1,h2⟩:=h
 exact⟨oA,on,oc,hb.trans h1,h2.kept hk⟩
end
end
section
variable {ad:Addr} {E N:Int} {cap hc hn k n:Nat} {S:Nat->Prop} {A hA:O}
theorem at_any (a1 a2 a3 a4 a5 a6:Int) (s:ByteArray) (a7:Int) (v:Value) (w:World) :
 Calls prog 68 #[.agg #[a1,a2,a3,a4,a5,a6,.string s,a7,v]] w fun x w'=>x=.returned (.agg #[a1,a2])/\Below w w w':=by
 go_enter func68,ntmps68
 go_wp2
 refine bodyPost_ret (v:=.agg #[a1,a2]) (by simp [results,results68,go_sem]) rfl ?_
 exact Y107
theorem rhas_zero (w:World) (hN:N=0) (hE:E=0) :
 Calls prog 65 #[.slice A n cap,.agg #[N,E]] w fun x w'=>x=.returned (.bool true)/\Below w w w':=by
 subst hN hE
 have hba:Below w w (w.alloc (.cells #[.int .i64 0,.int .i64 0] 26)):=(Below.refl _ _).alloc (Nat.le_refl _) _
 have HBA:=J hba
 have HBK:=J (Blk.new w 26 #[.int .i64 0,.int .i64 0])
 clear hba
 go_enter func65,ntmps65
 go_wp2_with fail
 refine wp_region_all kr (fun i v W=>match i with|0=>v=.agg #[.int .i64 0,.int .i64 0]|1=>v=.agg #[.int .i64 0,.int .i64 0]|2=>v=.bool true|3=>v=.bool true|4=>v=undef|5=>v=undef|6=>v=undef|7=>v=undef|8=>v=undef|9=>v=undef|10=>v=undef|11=>v=undef|12=>v=undef|13=>v=undef|14=>v=undef|15=>v=undef|16=>v=undef|17=>v=undef|18=>v=undef|19=>v=undef|20=>v=undef|21=>v=undef|22=>v=undef|23=>v=undef|24=>v=undef|25=>v=.bool true|26=>v=.bool true|_=>True) (fun W=>Below w w W/\Blk W w 26 #[.int .i64 0,.int .i64 0]) (fun W W'=>Below W W W') kr ?hG ?hmono ?hstep ?hend
 case hG=>exact⟨HBA.out.drew,HBK.out.drew⟩
 case hmono=>exact fun _ _ _ _ _ h=>h
 case hstep=>
  intro i o F U W ho hGW hat hoff hp
  have hrefl:=fun W:World=>Below.refl W.heap.size W
  have:=ot 0 (.slice A n cap)
  have:=ot 3 (.pointer (some ⟨w.heap.size,0,none⟩))
  obtain⟨qa,qb⟩:=J2 hat hp
  clear hat hoff hp
  match i with
   | 0=>cases ho;obtain⟨d0,d1⟩:=hGW.2.cs 0 2;exact vna
   | 1=>cases ho;exact vna
   | 2=>
    exact Y71
   | 3=>cases ho;have:=tx 2 7;exact vna
   | 4|5|6|7|13|14|24=>cases ho;exact ofv 3 8
   | 8|9|10|11|12=>cases ho;exact ufv 7 12
   | 15|16|17|18|19|20|21|22|23=>cases ho;exact ufv 14 19
   | 25=>cases ho;have:=tx 3 8;have:=tx 24 29;exact vna
   | 26=>cases ho;have:=tx 25 30;exact vna
   | i+27=>exact absurd ho (by simp)
 case hend=>
  intro U W hGW hV
  have hx:U 26=.bool true:=hV 26 kd
  exact Y38
theorem rhas_low (w:World) (hN:N<1) (hNE:¬ (N=0/\E=0)) :
 Calls prog 65 #[.slice A n cap,.agg #[N,E]] w fun x w'=>x=.returned (.bool false)/\Below w w w':=by
 have hba:Below w w (w.alloc (.cells #[N,E] 26)):=(Below.refl _ _).alloc (Nat.le_refl _) _
 have HBA:=J hba
 have HBK:=J (Blk.new w 26 #[N,E])
 clear hba
 go_enter func65,ntmps65
 go_wp2_with fail
 refine wp_region_all kr (fun i v W=>match i with|0=>v=.agg #[N,E]|1=>v=.agg #[.int .i64 0,.int .i64 0]|2=>v=.bool false|3=>v=.bool false|4=>v=.pointer (some ⟨w.heap.size,0,none⟩)|5=>v=N|6=>v=.bool false|7=>v=.bool false|8=>v=undef|9=>v=undef|10=>v=undef|11=>v=undef|12=>v=undef|13=>v=.bool false|14=>v=.bool false|15=>v=undef|16=>v=undef|17=>v=undef|18=>v=undef|19=>v=undef|20=>v=undef|21=>v=undef|22=>v=undef|23=>v=undef|24=>v=.bool false|25=>v=.bool false|26=>v=.bool false|_=>True) (fun W=>Below w w W/\Blk W w 26 #[N,E]) (fun W W'=>Below W W W') kr ?hG ?hmono ?hstep ?hend
 case hG=>exact⟨HBA.out.drew,HBK.out.drew⟩
 case hmono=>exact fun _ _ _ _ _ h=>h
 case hstep=>
  intro i o F U W ho hGW hat hoff hp
  have hrefl:=fun W:World=>Below.refl W.heap.size W
  have:=ot 0 (.slice A n cap)
  have:=ot 3 (.pointer (some ⟨w.heap.size,0,none⟩))
  obtain⟨qa,qb⟩:=J2 hat hp
  clear hat hoff hp
  match i with
   | 0=>cases ho;obtain⟨d0,d1⟩:=hGW.2.cs 0 2;exact vna
   | 1=>cases ho;exact vna
   | 2=>
    exact Y71
   | 3=>cases ho;have:=tx 2 7;exact vna
   | 4=>cases ho;refine onv 3 8 ?_;exact vla
   | 5=>cases ho;refine onv 3 8 ?_;have:=tx 4 9;have d0:=hGW.2.c1 0;exact vla
   | 6=>cases ho;refine onv 3 8 ?_;have:=tx 5 10;exact vlo
   | 7=>cases ho;refine onv 3 8 ?_;have:=tx 6 11;exact vla
   | 8|9|10|11|12=>cases ho;exact ofv 7 12
   | 13=>cases ho;refine onv 3 8 ?_;have:=tx 7 12;exact vla
   | 14=>cases ho;refine onv 3 8 ?_;have:=tx 13 18;exact vla
   | 15|16|17|18|19|20|21|22|23=>cases ho;exact ofv 14 19
   | 24=>cases ho;refine onv 3 8 ?_;have:=tx 14 19;have:=tx 23 28;exact vla
   | 25=>cases ho;have:=tx 3 8;have:=tx 24 29;exact vna
   | 26=>cases ho;have:=tx 25 30;exact vna
   | i+27=>exact absurd ho (by simp)
 case hend=>
  exact Y228
theorem rhas_high (w:World) (hN:1<=N) (hNn:(n:Int)<N) :
 Calls prog 65 #[.slice A n cap,.agg #[N,E]] w fun x w'=>x=.returned (.bool false)/\Below w w w':=by
 have hba:Below w w (w.alloc (.cells #[N,E] 26)):=(Below.refl _ _).alloc (Nat.le_refl _) _
 have HBA:=J hba
 have HBK:=J (Blk.new w 26 #[N,E])
 clear hba
 go_enter func65,ntmps65
 go_wp2_with fail
 refine wp_region_all kr (fun i v W=>match i with|0=>v=.agg #[N,E]|1=>v=.agg #[.int .i64 0,.int .i64 0]|2=>v=.bool false|3=>v=.bool false|4=>v=.pointer (some ⟨w.heap.size,0,none⟩)|5=>v=N|6=>v=.bool true|7=>v=.bool true|8=>v=.pointer (some ⟨w.heap.size,0,none⟩)|9=>v=N|10=>v=.slice A n cap|11=>v=.int .i64 (n:Nat)|12=>v=.bool false|13=>v=.bool false|14=>v=.bool false|15=>v=undef|16=>v=undef|17=>v=undef|18=>v=undef|19=>v=undef|20=>v=undef|21=>v=undef|22=>v=undef|23=>v=undef|24=>v=.bool false|25=>v=.bool false|26=>v=.bool false|_=>True) (fun W=>Below w w W/\Blk W w 26 #[N,E]) (fun W W'=>Below W W W') kr ?hG ?hmono ?hstep ?hend
 case hG=>exact⟨HBA.out.drew,HBK.out.drew⟩
 case hmono=>exact fun _ _ _ _ _ h=>h
 case hstep=>
  intro i o F U W ho hGW hat hoff hp
  have hrefl:=fun W:World=>Below.refl W.heap.size W
  have:=ot 0 (.slice A n cap)
  have:=ot 3 (.pointer (some ⟨w.heap.size,0,none⟩))
  obtain⟨qa,qb⟩:=J2 hat hp
  clear hat hoff hp
  match i with
   | 0=>cases ho;obtain⟨d0,d1⟩:=hGW.2.cs 0 2;exact vna
   | 1=>cases ho;exact vna
   | 2=>
    exact Y71
   | 3=>cases ho;have:=tx 2 7;exact vna
   | 4=>cases ho;refine onv 3 8 ?_;exact vla
   | 5=>cases ho;refine onv 3 8 ?_;have:=tx 4 9;have d0:=hGW.2.c1 0;exact vla
   | 6=>cases ho;refine onv 3 8 ?_;have:=tx 5 10;exact vlo
   | 7=>cases ho;refine onv 3 8 ?_;have:=tx 6 11;exact vla
   | 8|10=>cases ho;refine onv 7 12 ?_;exact vla
   | 9=>cases ho;refine onv 7 12 ?_;have:=tx 8 13;have d0:=hGW.2.c1 0;exact vla
   | 11=>cases ho;refine onv 7 12 ?_;have:=tx 10 15;exact vla
   | 12=>cases ho;refine onv 7 12 ?_;have:=tx 9 14;have:=tx 11 16;exact vlo
   | 13=>cases ho;refine onv 3 8 ?_;have:=tx 7 12;have:=tx 12 17;exact vla
   | 14=>cases ho;refine onv 3 8 ?_;have:=tx 13 18;exact vla
   | 15|16|17|18|19|20|21|22|23=>cases ho;exact ofv 14 19
   | 24=>cases ho;refine onv 3 8 ?_;have:=tx 14 19;have:=tx 23 28;exact vla
   | 25=>cases ho;have:=tx 3 8;have:=tx 24 29;exact vna
   | 26=>cases ho;have:=tx 25 30;exact vna
   | i+27=>exact absurd ho (by simp)
 case hend=>
  exact Y228
section
variable (c:OpC) (w:World) (hk:k<n) (hz:n<=4294967296) (hab:(ad.add (k*9)).block<w) (hop:OpAt w (ad.add (k*9)) (c.at_ hA hn hc))
include c w hk hz hab hop
theorem rhas_no (hne:¬ (c.n=(k:Int)+1/\c.epoch=E)) :
 Calls prog 65 #[.slice (some ad) n cap,.agg #[.int .i64 ((k:Int)+1),E]] w fun x w'=>x=.returned (.bool false)/\Below w w w':=by
 have hba:Below w w (w.alloc (.cells #[.int .i64 ((k:Int)+1),E] 26)):=(Below.refl _ _).alloc (Nat.le_refl _) _
 have HBA:=J hba
 have HBK:=J (Blk.new w 26 #[.int .i64 ((k:Int)+1),E])
 clear hba
 obtain⟨x1,x2,x3,x4,x5,x6,x7,x8,x9⟩:=c
 simp only [OpC.at_] at hop hne
 obtain⟨HP,HAB⟩:=J2 hop hab
 clear hop hab
 have b1:(0:Int)<=(k:Int):=by omega
 have b2:(k:Int)<(n:Int):=by omega
 go_enter func65,ntmps65
 go_wp2_with fail
 refine wp_region_all kr (fun i v W=>match i with|0=>v=.agg #[.int .i64 ((k:Int)+1),E]|1=>v=.agg #[.int .i64 0,.int .i64 0]|2=>v=.bool false|3=>v=.bool false|4=>v=.pointer (some ⟨w.heap.size,0,none⟩)|5=>v=.int .i64 ((k:Int)+1)|6=>v=.bool true|7=>v=.bool true|8=>v=.pointer (some ⟨w.heap.size,0,none⟩)|9=>v=.int .i64 ((k:Int)+1)|10=>v=.slice (some ad) n cap|11=>v=.int .i64 (n:Nat)|12=>v=.bool true|13=>v=.bool true|14=>v=.bool true|15=>v=.slice (some ad) n cap|16=>v=.pointer (some ⟨w.heap.size,0,none⟩)|17=>v=.int .i64 ((k:Int)+1)|18=>v=.int .i64 (k:Nat)|19=>v=.pointer (some (ad.add (k*9)))|20=>v=.agg #[.int .i64 x1,.int .i64 x2,.int .i64 x3,.int .i64 x4,.int .i64 x5,.int .i64 x6,.string x7,.int .i64 x8,.slice hA hn hc]|21=>v=.agg #[.int .i64 x1,.int .i64 x2]|22=>v=.agg #[.int .i64 ((k:Int)+1),E]|23=>v=.bool false|24=>v=.bool false|25=>v=.bool false|26=>v=.bool false|_=>True) (fun W=>Below w w W/\Blk W w 26 #[.int .i64 ((k:Int)+1),E]) (fun W W'=>Below W W W') kr ?hG ?hmono ?hstep ?hend
 case hG=>exact⟨HBA.out.drew,HBK.out.drew⟩
 case hmono=>exact fun _ _ _ _ _ h=>h
 case hstep=>
  exact Y6
 case hend=>
  exact Y228
theorem rhas_yes (hne:c.n=(k:Int)+1/\c.epoch=E) :
 Calls prog 65 #[.slice (some ad) n cap,.agg #[.int .i64 ((k:Int)+1),E]] w fun x w'=>x=.returned (.bool true)/\Below w w w':=by
 have hba:Below w w (w.alloc (.cells #[.int .i64 ((k:Int)+1),E] 26)):=(Below.refl _ _).alloc (Nat.le_refl _) _
 have HBA:=J hba
 have HBK:=J (Blk.new w 26 #[.int .i64 ((k:Int)+1),E])
 clear hba
 obtain⟨x1,x2,x3,x4,x5,x6,x7,x8,x9⟩:=c
 simp only [OpC.at_] at hop hne
 obtain⟨HP,HAB⟩:=J2 hop hab
 clear hop hab
 have b1:(0:Int)<=(k:Int):=by omega
 have b2:(k:Int)<(n:Int):=by omega
 obtain⟨m1,m2⟩:=hne
 go_enter func65,ntmps65
 go_wp2_with fail
 refine wp_region_all kr (fun i v W=>match i with|0=>v=.agg #[.int .i64 ((k:Int)+1),E]|1=>v=.agg #[.int .i64 0,.int .i64 0]|2=>v=.bool false|3=>v=.bool false|4=>v=.pointer (some ⟨w.heap.size,0,none⟩)|5=>v=.int .i64 ((k:Int)+1)|6=>v=.bool true|7=>v=.bool true|8=>v=.pointer (some ⟨w.heap.size,0,none⟩)|9=>v=.int .i64 ((k:Int)+1)|10=>v=.slice (some ad) n cap|11=>v=.int .i64 (n:Nat)|12=>v=.bool true|13=>v=.bool true|14=>v=.bool true|15=>v=.slice (some ad) n cap|16=>v=.pointer (some ⟨w.heap.size,0,none⟩)|17=>v=.int .i64 ((k:Int)+1)|18=>v=.int .i64 (k:Nat)|19=>v=.pointer (some (ad.add (k*9)))|20=>v=.agg #[.int .i64 x1,.int .i64 x2,.int .i64 x3,.int .i64 x4,.int .i64 x5,.int .i64 x6,.string x7,.int .i64 x8,.slice hA hn hc]|21=>v=.agg #[.int .i64 x1,.int .i64 x2]|22=>v=.agg #[.int .i64 ((k:Int)+1),E]|23=>v=.bool true|24=>v=.bool true|25=>v=.bool true|26=>v=.bool true|_=>True) (fun W=>Below w w W/\Blk W w 26 #[.int .i64 ((k:Int)+1),E]) (fun W W'=>Below W W W') kr ?hG ?hmono ?hstep ?hend
 case hG=>exact⟨HBA.out.drew,HBK.out.drew⟩
 case hmono=>exact fun _ _ _ _ _ h=>h
 case hstep=>
  exact Y6
 case hend=>
  intro U W hGW hV
  have hx:U 26=.bool true:=hV 26 kd
  exact Y38
end
theorem rhas_any (cs:List OpC) (w:World) (h:OpsIs w S A n cap cs) (hz:n<=4294967296) :
 Calls prog 65 #[.slice A n cap,.agg #[N,E]] w fun x w'=>x=.returned (.bool (hasB cs N E))/\Below w w w':=by
 have hl:=h.len
 by_cases h0:N=0/\E=0
 ·have e:hasB cs N E=true:=by simp [hasB,h0.1,h0.2]
  rw [e]
  exact rhas_zero w h0.1 h0.2
 have e0:(decide (N=0)&&decide (E=0))=false:=by
  exact Y192
 by_cases h1:N<1
 ·have e : hasB cs N E = false := by
   exact Y175
  rw [e]
  exact rhas_low w h1 h0
 by_cases h2:(n:Int)<N
 ·have e : hasB cs N E = false := by
   exact Y147
  rw [e]
  exact rhas_high w (by omega) h2
 obtain⟨k,hk⟩:∃ k:Nat,N=(k:Int)+1:=⟨(N-1).toNat,by omega⟩
 subst hk
 obtain⟨ad,c,hA,hn,hc,rfl,hb,ho,hop,hs⟩:=h.at_ (k:=k) (by omega)
 have e1:decide (1<=(k:Int)+1)=true:=decide_eq_true (by omega)
 have e2:decide ((k:Int)+1<=(cs.length:Int))=true:=decide_eq_true (by omega)
 have e3:((k:Int)+1-1).toNat=k:=by omega
 by_cases hne:c.n=(k:Int)+1/\c.epoch=E
 ·have e : hasB cs ((k : Int) + 1) E = true := by
   simp only [hasB,e0,e1,e2,e3,ho,hne.1,hne.2,decide_true,Bool.and_self,Bool.or_true]
  rw [e]
  exact rhas_yes c w (by omega) hz hb hop hne
 ·have e : hasB cs ((k : Int) + 1) E = false := by
   exact Y120
  rw [e]
  exact rhas_no c w (by omega) hz hb hop hne
end
section
variable {c n:Nat} {S:Nat->Prop} {A:O}
theorem intV_append (a b:List Int):intV .i64 (a++b)=intV .i64 a++intV .i64 b:=by simp [intV]
theorem repochs_any (os:List OpC) (w:World) (h:OpsIs w S A n c os) (hn:n<=4294967296) :
 Calls prog 67 #[.slice A n c] w fun x w'=>∃ A' c',x=.returned (.slice A' n c')/\IntIs w' (From w.heap.size) A' n c' (os.map (·.epoch))/\Below w w w':=by
 have hlen:=h.len
 obtain⟨HR,HL⟩:=J2 h hlen
 clear h hlen
 obtain⟨i0,hi0,hz0,hz1,hz2⟩:=info_parts Try.infoInt
 obtain⟨HI,HZ0,HZ1,HZ2⟩:=J4 hi0 hz0 hz1 hz2
 clear hi0 hz0 hz1 hz2
 go_enter func67,ntmps67
 go_wp2_with fail
 go_loopw [3,4] (fun v i wr=>∃ (k:Nat),k<=n/\i=.int .i64 k/\wr.ownsRow w.heap.size 3 1 v k (intV .i64 ((os.map (·.epoch)).take k))/\Below w w wr) (fun _ i _=>n-(intOf i).toNat)
 case atStart=>exact⟨0,by omega,rfl,World.ownsRow_nil _ _ _ _,Below.refl _ _⟩
 case round=>
  obtain⟨k,hk,rfl,hown,hb⟩:=hrel
  obtain⟨HB,HW⟩:=J2 hb hown
  clear hb hown
  rcases Nat.lt_or_ge k n with hk1|hk1
  ·obtain⟨ad,o,hA,hn',hc,rfl,hab,hck,hop,hss⟩:=(HR.out.below HB.out).at_ hk1
   obtain⟨k0,k1,k2,k3,k4,k5,k6,k7,k8⟩:=hop
   simp only [OpC.at_] at k1
   have htk:(os.map (·.epoch)).take (k+1)=(os.map (·.epoch)).take k++[o.epoch]:=by rw [List.take_add_one,List.getElem?_map,hck];rfl
   have HTK:=J htk
   have hnb:Blk (wr.alloc (.cells #[o.epoch] 3)) wr.heap.size 3 #[o.epoch]:=Blk.new _ _ _
   have HNB:=J hnb
   clear hck hss htk k0 k2 k3 k4 k5 k6 k7 k8 hnb
   go_wp2_with (at_builtin;refine wpList_append_any _ rfl (.tmp 11) (.tmp 17) _ rfl w.heap.size 3 i0 _ 1 8 underlying27 HI.out HZ0.out HZ1.out HZ2.out rfl (by omega) u3 k (intV .i64 ((os.map (·.epoch)).take k)) rfl (HW.out.alloc _) _ (some ⟨wr.heap.size,0,none⟩) 1 1 (intV .i64 [o.epoch]) rfl (HNB.out.reads (n:=1) (size:=1) rfl) (intV_one _) ?d1 ?d2 ?d3 ?_)
   case d1=>unfold maxLen;omega
   case d2=>omega
   case d3=>have:=HB.out.size;simp;omega
   intro v2 w5 hown5 hg5 hat5
   have hb5:Below w w w5:=(HB.out.alloc HB.out.size _).grown hg5 (by have:=HB.out.size;simp;omega) (by intro j hj;exact (HW.out.lt j hj).1)
   rw [<-intV_append,<-HTK.out] at hown5
   obtain⟨E4,E5⟩:=J2 hown5 hb5
   clear hown5 hg5 hat5 hb5
   go_wp2
   go_roundw
   case rel=>exact⟨k+1,by omega,by go_num,E4.out,E5.out⟩
   case measure=>simp [intOf];omega
  ·obtain rfl:n=k:=by omega
   obtain⟨A',c',rfl,hc1,hcm,hrd⟩:=own_slice HW.out
   have hl:(os.map (·.epoch)).take n=os.map (·.epoch):=List.take_of_length_le (by rw [List.length_map,HL.out];exact Nat.le_refl _)
   rw [hl] at hrd
   have hrs:IntIs wr (From w.heap.size) A' n c' (os.map (·.epoch)):=⟨Rs.of hrd fun _ ad e=>(HW.out.lt ad.block (by rw [e];rfl)).1,hc1,hcm⟩
   have HRS:=J hrs
   clear hcm hrd hrs hl
   go_wp2
   go_ret
   exact⟨A',c',rfl,HRS.out,HB.out⟩
end
section
open Go.Maps
theorem laidOut_:laidOutB prog=true:=by kernel_rfl
theorem spotKeyed:Keyed prog 26:=Keyed.of_law (deep_law_laid (m:=5) laidOut_ (by omega) kd kr kr)
@[reducible] def spotV' (N E:Int):Value:=.agg #[N,E]
theorem wf_of {z:Int} (h:I64 z):(Lit.int .i64 z).wf=true:=WalkArith.wf_i64 ⟨h.1,h.2⟩
section
variable {H:Type} {z:DataW H×List MemPlace} {P:Program} {e:TypeId} {v:Value}
theorem spotKey (N E:Int) (hN:I64 N) (hE:I64 E):∃ l,keyOf prog 26 (spotV' N E)=some l:=by
 have h1:=wf_of hN
 have h2:=wf_of hE
 have hk:prog.keyType 26=true:=by kernel_rfl
 unfold keyOf
 rw [underlying26]
 simp only [hk]
 have hf:(spotV' N E).formed prog 26=true:=by
  unfold Value.formed
  rw [underlying26]
  kernel_rfl
 have hl:∃ ls,prog.keyLits (prog.types.size+1) 26 [.int .i64 N,.int .i64 E]=some ls:=by
  obtain⟨q,hq⟩:∃ q,prog.types.size+1=q+1+1:=⟨prog.types.size-1,by
   have:0<prog.types.size:=of_decide_eq_true kr
   omega⟩
  rw [hq]
  have hi:∀ z,(Lit.int .i64 z).wf=true->prog.keyLits (q+1) 3 [.int .i64 z]=some [.int .i64 z]:=by
   intro z hz
   unfold Program.keyLits
   rw [underlying3]
   simp [hz]
  unfold Program.keyLits
  rw [underlying26]
  simp [Try.cSpot,Try.cInt,hi _ h1,hi _ h2]
 obtain⟨ls,hls⟩:=hl
 simp [hf,Value.cells]
 exact⟨_,ls,hls,rfl⟩
theorem plainElem_bool_inv (he:P.underlying e=some .bool) (h:plainElem P e v=some z):∃ x,v=.bool x/\z=(.lit (.bool x),[]):=by
 unfold plainElem at h
 rw [he] at h
 cases v<;>simp at h
 subst h
 exact⟨_,rfl,rfl⟩
theorem zeroBool (w:World):(zeroValue 4).run prog w=.ok (.bool false) w:=by kernel_rfl
end
def SetIs (w:World) (b c:Nat) (L:List (Int×Int)):Prop:=
 ∃ (n:Nat) (D:DataW Unit),w.ownsMap prog 26 (plainElem prog 4) b n D/\Maps.size D<=c/\∀ p∈L,∃ l,keyOf prog 26 (spotV' p.1 p.2)=some l/\D.atKey l (.lit (.bool false))=.lit (.bool true)
section
variable {w w':World} {b c:Nat} {L:List (Int×Int)}
section
variable {H:Type} {D:DataW H} {B n:Nat} {P:Program} {k:TypeId} {R:Value->Option (DataW H×List MemPlace)}
section
variable (h:SetIs w b c L)
include h
theorem SetIs.lt:b<w:=by
 obtain⟨n,D,h,_⟩:=h
 exact h.lt
theorem SetIs.keep (hk:w'.heap[b]? = w.heap[b]?):SetIs w' b c L:=by
 obtain⟨n,D,⟨es,clock,h1,h2⟩,h3⟩:=h
 exact⟨n,D,⟨es,clock,hk.trans h1,h2⟩,h3⟩
theorem SetIs.below (hb:Below B w w') (hg:b<B):SetIs w' b c L:=h.keep (hb.block b hg)
end
theorem SetIs.made (w:World):SetIs (w.alloc (.map #[] 0)) w.heap.size 0 []:=
 ⟨0,.map [],World.ownsMap_made w _ _ _,Nat.le_refl _,fun p hp=>by cases hp⟩
theorem ownsMap_size (h:w.ownsMap P k R b n D):w.ownsMap P k R b (Maps.size D) D:=by
 obtain⟨es,clock,hb,F,hs,hD⟩:=h
 refine⟨es,clock,hb,F,?_,hD⟩
 rw [hD,Maps.size_eq,length_sorted]
 simp
theorem SetIs.add (h:SetIs w b c L) (hc:c<maxLen) (N E:Int) (hN:I64 N) (hE:I64 E) :
 ∃ w',(Instr.mapUpdate 79 (.map (some b)) (spotV' N E) (.bool true)).run prog w=.ok () w'/\SetIs w' b (c+1) ((N,E)::L)/\w.grownBy w' (some b):=by
 obtain⟨n,D,h1,h2,h3⟩:=h
 obtain⟨l,hl⟩:=spotKey N E hN hE
 have h4:=ownsMap_size h1
 have ht:=h1.tidy spotKeyed
 have hik:=spotKeyed.key hl
 obtain⟨w',hrun,h5,hg⟩:=h4.update spotKeyed underlying79 (by omega) hl (plainElem_bool underlying4 true)
 refine⟨w',hrun,⟨_,_,h5,?_,?_⟩,hg⟩
 ·rw [size_put ht]
  split<;>omega
 ·intro p hp
  rcases List.mem_cons.1 hp with rfl|hp
  ·exact⟨l,hl,atKey_put_same ht.isMap hik _ _⟩
  ·obtain⟨l2,hl2,hat⟩:=h3 p hp
   refine⟨l2,hl2,?_⟩
   by_cases e:l2=l
   ·subst e
    exact atKey_put_same ht.isMap hik _ _
   ·rw [atKey_put_other e]
    exact hat
theorem SetIs.look (h:SetIs w b c L) (N E:Int) (hm:(N,E)∈L):(Instr.lookup 79 (.map (some b)) (spotV' N E) false).run prog w=.ok (.bool true) w:=by
 obtain⟨n,D,h1,h2,h3⟩:=h
 obtain⟨l,hl,hat⟩:=h3 _ hm
 obtain⟨v,ps,hrun,hv⟩:=h1.lookup spotKeyed underlying79 (z:=.bool false) (zeroBool w) (plainElem_bool underlying4 false) hl
 exact Y143
end
end
end
section
open Go.Maps (Keyed int_keyed keyOf_int_mk)
@[reducible] noncomputable def rightF:Func:=Try.f64
theorem u8Keyed:Keyed prog 5:=int_keyed underlying5
abbrev NamedD:=DataW Unit
def namedD:List Nat->NamedD
 | []=>.map []
 | c::l=>(namedD l).put (.int .u8 (c:Int)) (.lit (.bool true))
def NamedIs (w:World) (g:Nat) (l:List Nat):Prop:=w.ownsMap prog 5 (plainElem (H:=Unit) prog 4) g l.length (namedD l)
section
variable {a:Act} {ops:Array Oper} {l:List Nat} {rest:List Oper} {B g:Nat} {o:Oper} {w w':World} {Q:Z}
section
variable (h:NamedIs w g l)
include h
theorem NamedIs.below (hb:Below B w w') (hg:g<B):NamedIs w' g l:=by
 obtain⟨es,clock,h1,h2⟩:=h
 exact⟨es,clock,(hb.block g hg).trans h1,h2⟩
theorem NamedIs.lt:g<w:=World.ownsMap.lt h
theorem NamedIs.look (c:Nat) (b:Bool) (hc:(Lit.int .u8 (c:Int)).wf=true) (hat:(namedD l).atKey (.int .u8 (c:Int)) (.lit (.bool false))=.lit (.bool b)) :
 (Instr.lookup 147 (.map (some g)) (.int .u8 (c:Int)) false).run prog w=.ok (.bool b) w:=by
 obtain⟨v,ps,hrun,hv⟩:=World.ownsMap.lookup h u8Keyed underlying147 (z:=.bool false) (zeroBool w) (plainElem_bool underlying4 false) (keyOf_int_mk underlying5 hc)
 exact Y143
theorem NamedIs.put (hl:l.length<100) (c:Nat) (hc:(Lit.int .u8 (c:Int)).wf=true) :
 ∃ w',(Instr.mapUpdate 147 (.map (some g)) (.int .u8 (c:Int)) (.bool true)).run prog w=.ok () w'/\NamedIs w' g (c::l)/\w.grownBy w' (some g):=
 World.ownsMap.update h u8Keyed underlying147 (by unfold maxLen;omega) (keyOf_int_mk underlying5 hc) (plainElem_bool underlying4 true)
end
theorem wpList_named (hgd:o.guard=none) (m x v:Operand) (hop:o.op=Op.mapUpdate 147 m x v) (hn:NamedIs w g l) (hl:l.length<100) (c:Nat) (hc:(Lit.int .u8 (c:Int)).wf=true) (hm:a.eval m=.map (some g)) (hx:a.eval x=.int .u8 (c:Int)) (hv:a.eval v=.bool true) (hK:∀ w',NamedIs w' g (c::l)->w.grownBy w' (some g)->wpList prog ops Q rest (a.put o.dst undef) w'):wpList prog ops Q (o::rest) a w:=
 wpList_mapUpdate_own w hgd m x v 147 hop 5 4 u8Keyed underlying147 _ g l.length (namedD l) hm hn (by unfold maxLen;omega) _ _ _ hx hv (keyOf_int_mk underlying5 hc) _ [] (plainElem_bool underlying4 true) hK
theorem named_at:∀ p∈[(116,false),(105,false),(112,false),(99,false),(103,true),(101,false),(100,false),(104,false),(69,true),(115,false),(97,true),(119,true),(79,false),(72,true)],
 (namedD [72,119,97,103,69]).atKey (.int .u8 ((p.1:Nat):Int)) (.lit (.bool false))=.lit (.bool p.2)/\(Lit.int .u8 ((p.1:Nat):Int)).wf=true:=by
 exact Y106
theorem right28 (w:World) (Q:Z) (a:Act) (mb g:Nat) (hfr:Fr 391 a [(1,mb),(3,.string ⟨#[69,103,97,119,72]⟩),(4,.map (some g))]) (h:NamedIs w g []) (hQ:∀ a' w',Fr 391 a' [(1,mb),(4,.map (some g))]->NamedIs w' g [72,119,97,103,69]->Below g w w'->Q .normal a' w') :
 (part [1,1,1,1,0] (codeOf rightF)).wp prog Q a w:=by
 obtain⟨HQ,H0⟩:=J2 hQ h
 clear hQ h
 refine gg hfr fun t=>?_
 go_wp2_with fail
 go_loopw [5] (fun i wr=>(∃ k:Nat,k<=5/\i=.int .i64 k/\NamedIs wr g (([69,103,97,119,72].take k).reverse))/\Below g w wr) (fun i _=>5-(intOf i).toNat)
 case atStart=>exact⟨⟨0,by omega,rfl,H0.out⟩,Below.refl _ _⟩
 case round=>
  obtain⟨⟨k,hk,rfl,hn⟩,hb⟩:=hrel
  have HB:=J hb
  clear hb
  have HN:=J hn
  have hlt:=hn.lt
  clear hn
  match k,hk with
  | 0,_=>
   exact Y47
  | 1,_=>
   go_wp2_with (at_mapUpdate;refine wpList_named rfl _ _ _ rfl HN.out (by simp) 103 kr rfl rfl rfl ?_)
   exact Y66
  | 2,_=>
   exact Y48
  | 3,_=>
   go_wp2_with (at_mapUpdate;refine wpList_named rfl _ _ _ rfl HN.out (by simp) 119 kr rfl rfl rfl ?_)
   exact Y67
  | 4,_=>
   go_wp2_with (at_mapUpdate;refine wpList_named rfl _ _ _ rfl HN.out (by simp) 72 kr rfl rfl rfl ?_)
   intro w' h1 h3
   have H1:=J h1
   have H2:=J (HB.out.trans (⟨h3.os,h3.tape,h3.output,h3.size,fun b hb=>h3.block b (by omega) (fun e=>by injection e;omega)⟩:Below g wr w'))
   clear h1 h3
   go_wp2_with fail
   go_roundw
   case rel=>exact⟨⟨5,by omega,rfl,H1.out⟩,H2.out⟩
   case measure=>simp [intOf]
  | 5,_=>
   exact Y125
  | k+6,hk=>exact absurd hk (by omega)
end
end
structure Rk (w0 w:World) (S:Nat->Prop) (rb bx:Nat) (l:LaneC) (m:MailC) (A:Option Addr) (n cap:Nat) (os:List OpC):Prop where
 lane:RefIs w S rb l
 box:BoxIs w S bx m
 bxS:S bx
 ops:OpsIs w S A n cap os
 turn:Turn rb w0 w
section
variable {w0 w w':World} {S:Nat->Prop} {rb bx:Nat} {l l':LaneC} {m:MailC} {A:O} {n cap:Nat} {os:List OpC}
section
variable (h:Rk w0 w S rb bx l m A n cap os)
include h
theorem Rk.below (hb:Below w w w'):Rk w0 w' S rb bx l m A n cap os:=
 ⟨h.lane.below hb,h.box.below hb,h.bxS,h.ops.below hb,h.turn.next (Nat.le_of_lt h.lane.lt) hb⟩
theorem Rk.drew:Rk w0 w.drew S rb bx l m A n cap os:=h.below ⟨rfl,rfl,rfl,Nat.le_refl _,fun _ _=>rfl⟩
theorem Rk.drewN (k:Nat):Rk w0 (w.drewN k) S rb bx l m A n cap os:=h.below ⟨rfl,rfl,rfl,Nat.le_refl _,fun _ _=>rfl⟩
theorem Rk.turned (hL:¬ S rb) (ht:Turn rb w w') (hl:RefIs w' S rb l'):Rk w0 w' S rb bx l' m A n cap os:=by
 exact Y136
end
end
structure Rk2 (w0 w:World) (S:Nat->Prop) (rb bx:Nat) (l l1:LaneC) (m:MailC) (A:O) (n cap:Nat) (os:List OpC):Prop where
 lane:RefIs w S rb l\/RefIs w S rb l1
 box:BoxIs w S bx m
 bxS:S bx
 ops:OpsIs w S A n cap os
 turn:Turn rb w0 w
section
variable {w0 w w':World} {S:Nat->Prop} {rb bx:Nat} {l l1:LaneC} {m:MailC} {A:O} {n cap:Nat} {os:List OpC}
section
variable (h:Rk2 w0 w S rb bx l l1 m A n cap os)
include h
theorem Rk2.lt:rb<w:=by rcases h.lane with h|h<;>exact h.lt
theorem Rk2.below (hb:Below w w w'):Rk2 w0 w' S rb bx l l1 m A n cap os:=
 ⟨h.lane.imp (·.below hb) (·.below hb),h.box.below hb,h.bxS,h.ops.below hb,h.turn.next (Nat.le_of_lt h.lt) hb⟩
theorem Rk2.turned (hL:¬ S rb) (ht:Turn rb w w') (hl:RefIs w' S rb l1):Rk2 w0 w' S rb bx l l1 m A n cap os:=by
 exact Y128
end
end
section
variable {a:Act} {K:Act->World->Prop} {xs:List Int} {c n:Nat} {S:Nat->Prop} {A:O} {o:Oper} {P:Program} {w:World} {Q:Z}
theorem run_append_zero (w:World) (t ty e:TypeId) (i:TypeInfo) (ht:P.underlying t=some (.slice e)) (hi:P.info? e=some i) (b:Addr) (A:O) (c:Nat) :
 (Builtin.append_ #[t,t] ty #[.slice (some b) 0 0,.slice A 0 c]).run P w=.ok (.slice (some b) 0 0) w:=by
 cases A with
 | none=>simp [Builtin.append_,run_underlying ht,sizeOf,typeInfo,hi,Builtin.lenOf,Builtin.firstCells,storeCells]
 | some a=>
  have hl:(loadCells a 0).run P w=.ok #[] w:=run_loadCells_list (P:=P) w a [] (by intro j v h;simp at h)
  simp [Builtin.append_,run_underlying ht,sizeOf,typeInfo,hi,Builtin.lenOf,Builtin.firstCells,storeCells,hl]
theorem run_append_ints (ty:TypeId) (w:World) (b0:Addr) (h:IntIs w S A n c xs) (hn:n*8<=140737488351232) :
 ∃ A' c' w',(Builtin.append_ #[27,27] ty #[.slice (some b0) 0 0,.slice A n c]).run prog w=.ok (.slice A' n c') w'/\IntIs w' (From w.heap.size) A' n c' xs/\Below w w w':=by
 obtain⟨i0,hi,hz0,hz1,hz2⟩:=info_parts Try.infoInt
 rcases Nat.eq_zero_or_pos n with h0|h0
 ·subst h0
  have hl:=h.len
  obtain rfl:xs=[]:=List.eq_nil_of_length_eq_zero hl
  exact⟨some b0,0,w,run_append_zero w _ ty _ i0 underlying27 hi b0 A c,⟨Rs.nil_ _ _ _ _,Nat.le_refl _,Nat.zero_le _⟩,Below.refl _ _⟩
 ·obtain⟨ad,rfl,_,_,hcell⟩:=h.1.2 h0
  have hl:=h.1.1
  obtain⟨v',w',hrun,hown,hg⟩:=run_append_arg_grows (w:=w) (P:=prog) 27 ty 3 i0 _ 1 8 underlying27 hi hz0 hz1 hz2 rfl (by omega) b0 0 0 [] (by simp) (by simp) ad n c (intV .i64 xs) hl hcell (by omega) (by unfold maxLen;omega) (by omega)
  simp only [Nat.zero_add,List.nil_append] at hown
  obtain⟨A',c',rfl,hc1,hcm,hrd⟩:=own_slice hown
  exact⟨A',c',w',hrun,⟨Rs.of hrd fun _ ad e=>(hown.lt ad.block (by rw [e];rfl)).1,hc1,hcm⟩,hg.os,hg.tape,hg.output,hg.size,fun b hb=>hg.block b hb (by simp)⟩
theorem wp_append_ints (s x:Operand) (ho:o.op=.call {callee:=.builtin .append,args:=#[s,x],argTypes:=#[27,27]}) (b0:Addr) (hs:a.eval s=.slice (some b0) 0 0) (hx:a.eval x=.slice A n c) (h:IntIs w S A n c xs) (hn:n*8<=140737488351232) (hK:∀ A' c' w',IntIs w' (From w.heap.size) A' n c' xs->Below w w w'->K (a.put o.dst (.slice A' n c')) w'):o.wp prog a w K Q:=by
 obtain⟨A',c',w',hrun,h2,h3⟩:=run_append_ints o.type w b0 h hn
 unfold Oper.wp execOp
 simp only [ho,resolve,invoke,builtin,Sem.run_bind,Sem.run_pure,Result.andThen_ok,List.map_toArray,List.map_cons,List.map_nil,hs,hx,hrun]
 exact hK A' c' w' h2 h3
end
theorem named9_at:∀ p∈[(116,false),(105,false),(112,false),(99,false),(103,false),(101,false),(100,false),(104,false),(69,true),(115,true),(97,true),(119,false),(79,true),(72,false)],
 (namedD [79,97,115,69]).atKey (.int .u8 ((p.1:Nat):Int)) (.lit (.bool false))=.lit (.bool p.2)/\(Lit.int .u8 ((p.1:Nat):Int)).wf=true:=by
 exact Y106
theorem right28_9 (w:World) (Q:Z) (a:Act) (mb g:Nat) (hfr:Fr 391 a [(1,mb),(3,.string ⟨#[69,115,97,79]⟩),(4,.map (some g))]) (h:NamedIs w g []) (hQ:∀ a' w',Fr 391 a' [(1,mb),(4,.map (some g))]->NamedIs w' g [79,97,115,69]->Below g w w'->Q .normal a' w') :
 (part [1,1,1,1,0] (codeOf rightF)).wp prog Q a w:=by
 obtain⟨HQ,H0⟩:=J2 hQ h
 clear hQ h
 refine gg hfr fun t=>?_
 go_wp2_with fail
 go_loopw [5] (fun i wr=>(∃ k:Nat,k<=4/\i=.int .i64 k/\NamedIs wr g (([69,115,97,79].take k).reverse))/\Below g w wr) (fun i _=>4-(intOf i).toNat)
 case atStart=>exact⟨⟨0,by omega,rfl,H0.out⟩,Below.refl _ _⟩
 case round=>
  obtain⟨⟨k,hk,rfl,hn⟩,hb⟩:=hrel
  have HB:=J hb
  clear hb
  have HN:=J hn
  have hlt:=hn.lt
  clear hn
  match k,hk with
  | 0,_=>
   exact Y47
  | 1,_=>
   go_wp2_with (at_mapUpdate;refine wpList_named rfl _ _ _ rfl HN.out (by simp) 115 kr rfl rfl rfl ?_)
   exact Y66
  | 2,_=>
   exact Y48
  | 3,_=>
   go_wp2_with (at_mapUpdate;refine wpList_named rfl _ _ _ rfl HN.out (by simp) 79 kr rfl rfl rfl ?_)
   exact Y67
  | 4,_=>
   exact Y125
  | k+5,hk=>exact absurd hk (by omega)
end Go.Proofs.Ytaipgdhdfpemcaa
