/- THE WALKS OF THE LANE, part 36. -/
import Derived.Test.YtaipgdhdfpemcaaF30
import Derived.Test.YtaipgdhdfpemcaaF35
namespace Go.Proofs.Ytaipgdhdfpemcaa
set_option linter.all false
open Go.RowKit Go.Proofs.Try
set_option maxRecDepth 100000
set_option maxHeartbeats 4000000
theorem rnames_any {b:Nat} {A:O} {n c:Nat} {os:List OpC} {S:Nat->Prop} {x1 x2 x3 x4 x5:Value} (w:World) (hb:Blk w b 62 #[.slice A n c,x1,x2,x3,x4,x5]) (ho:OpsIs w S A n c os) (hn:n<=100) :
 Calls prog 111 #[.pointer (some ⟨b,0,none⟩)] w fun x w'=>∃ A' n' c',x=.returned (.slice A' n' c')/\StrIs w' Any A' n' c' (namesC os os)/\n'<=n/\Below w w w':=by
 have hlen:=ho.len
 have hlt:=hb.lt
 obtain⟨HB,HO,HL⟩:=J3 hb ho hlen
 clear hb ho hlen
 go_enter func111,ntmps111
 go_wp2_with fail
 go_loopw [3,4] (fun v i wr=>∃ (k:Nat) (A':O) (n' c':Nat),k<=n/\i=.int .i64 k/\v=.slice A' n' c'/\StrIs wr Any A' n' c' (namesC os (os.take k))/\(A'=none->c'=0)/\n'<=k/\Below w w wr) (fun _ i _=>n-(intOf i).toNat)
 case atStart=>exact⟨0,none,0,0,by omega,rfl,rfl,⟨Rs.nil_ _ _ _ _,Nat.le_refl _,Nat.zero_le _⟩,fun _=>rfl,Nat.le_refl _,Below.refl _ _⟩
 case round=>
  obtain⟨k,A',n',c',hk,rfl,rfl,hs,hz,hn',hbw⟩:=hrel
  have hkb:=HB.out.below hbw hlt
  have ho:=HO.out.below hbw
  have c0:=hkb.c1 0
  obtain⟨HS,HZ⟩:=J2 hs hz
  have HN':=J hn'
  obtain⟨HBW,HKB,HOK⟩:=J3 hbw hkb ho
  clear hs hz hbw hkb
  rcases Nat.lt_or_ge k n with hk1|hk1
  ·obtain⟨ad,o,hA,hn1,hc1,rfl,hab,hck,hop,hss⟩:=ho.at_ hk1
   have HT:=J (take_snoc hck)
   obtain⟨HAB,HP⟩:=J2 hab hop
   obtain⟨k0,k1,k2,k3,k4,k5,k6,k7,k8⟩:=hop
   simp only [OpC.at_] at k2 k6
   have d1:decide ((k:Int)<(n:Int))=true:=decide_eq_true (by omega)
   have d2:decide (k<n)=true:=decide_eq_true hk1
   have z2:(0:Int)<=(k:Nat):=by omega
   have z3:((k:Nat):Int)<((n:Nat):Int):=by omega
   clear hck hss k0 k1 k3 k4 k5 k7 k8 ho hab hn'
   go_wp2_with fail
   refine (rsheet12_any o.name wr HKB.out HOK.out (by omega)).mono ?_
   rintro x w2 ⟨z,B',p',q',rfl,-,hb2⟩
   obtain⟨w3,hw3⟩:∃ w3,w3=w2.alloc (.cells #[.int .i64 z,.slice B' p' q'] 43):=⟨_,rfl⟩
   have hb23:Below w2 w2 w3:=by rw [hw3];exact (Below.refl _ _).alloc (Nat.le_refl _) _
   have hb3:=hb2.trans (hb23.mono hb2.size)
   have hop3:=HP.out.below hb3 HAB.out
   obtain⟨m0,m1,m2,m3,m4,m5,m6,m7,m8⟩:=hop3
   simp only [OpC.at_] at m2 m6
   have hkb3:=HKB.out.below hb3 HKB.out.lt
   have c03:=hkb3.c1 0
   rw [hw3] at c03 m2 m6
   obtain⟨HW3,HB3⟩:=J2 hw3 hb3
   clear m0 m1 m3 m4 m5 m7 m8 hkb3 hb23 hb2 hb3 hw3
   dsimp only
   by_cases hk3:o.kind=3
   ·have e1:(o.kind != 3)=false:=by simp [hk3]
    have hne:namesC os (os.take (k+1))=namesC os (os.take k):=by
     rw [HT.out,namesC_snoc]
     unfold namesStep
     rw [if_neg fun h=>h.1 hk3]
    have HNE:=J hne
    clear hk3 hne
    exact Y94
   ·have e1:(o.kind != 3)=true:=by simp [hk3]
    have HK3:=J hk3
    clear hk3
    cases hlv:(liveC os o.name).isSome with
    | false=>
     have hne:namesC os (os.take (k+1))=namesC os (os.take k):=by
      rw [HT.out,namesC_snoc]
      unfold namesStep
      rw [if_neg fun h=>by rw [hlv] at h;cases h.2]
     have HNE:=J hne
     clear hne
     exact Y94
    | true=>
     have hne:namesC os (os.take (k+1))=putS (namesC os (os.take k)) o.name:=by
      rw [HT.out,namesC_snoc]
      unfold namesStep
      rw [if_pos ⟨HK3.out,hlv⟩]
     have HNE:=J hne
     clear hne
     go_wp2_with fail
     rw [<-HW3.out]
     refine (rput_any o.name (HS.out.below HB3.out) HZ.out (by have:=HN'.out;omega)).mono ?_
     rintro x w4 ⟨A2,n2,c2,rfl,hs4,hn4,hz4,hb4⟩
     obtain⟨HS4,HN4,HZ4,HB4⟩:=J4 hs4 hn4 hz4 hb4
     clear hs4 hn4 hz4 hb4
     dsimp only
     go_wp2
     refine⟨⟨k+1,_,_,_,hk1,rfl,rfl,by rw [HNE.out];exact HS4.out.mono fun _ _ _=>trivial,HZ4.out,by have:=HN'.out;have:=HN4.out;omega,HBW.out.trans ((HB3.out.trans (HB4.out.mono HB3.out.size)).mono HBW.out.size)⟩,by simp only [intOf];omega⟩
  ·obtain rfl:k=n:=by omega
   have d1:decide ((k:Int)<(k:Int))=false:=decide_eq_false (by omega)
   have d2:decide (k<k)=false:=decide_eq_false (by omega)
   clear ho hn'
   go_wp2
   go_ret
   have e:os.take k=os:=List.take_of_length_le (by have:=HL.out;omega)
   have hs:=HS.out
   rw [e] at hs
   exact⟨_,_,_,rfl,hs,HN'.out,HBW.out⟩
section
variable {os:List OpC} {b c n:Nat} {S:Nat->Prop} {A:O} {x1 x2 x3 x4 x5:Value}
theorem sumL_fits (h:∀ o∈os,Fits o) (l:List ByteArray):0<=sumL (sizeC os) l/\sumL (sizeC os) l<=512*l.length:=by
 induction l with
 | nil=>exact⟨Int.le_refl _,by simp [sumL]⟩
 | cons a l ih=>
  have:=sizeC_fits h a
  rw [sumL_cons,List.length_cons]
  omega
theorem rused_any (w:World) (hb:Blk w b 62 #[.slice A n c,x1,x2,x3,x4,x5]) (ho:OpsIs w S A n c os) (hn:n<=100) (hfits:∀ o∈os,Fits o) :
 Calls prog 95 #[.pointer (some ⟨b,0,none⟩)] w fun x w'=>x=.returned (.int .i64 (usedF os))/\Below w w w':=by
 have hlt:=hb.lt
 obtain⟨HB,HO,HF⟩:=J3 hb ho hfits
 have HNM:=J (rnames_any w hb ho hn)
 clear hb ho hfits
 go_enter func95,ntmps95
 go_wp2_with fail
 refine HNM.out.mono ?_
 rintro x w1 ⟨A1,n1,c1,rfl,hs1,hn1,hb1⟩
 obtain⟨HS1,HB1⟩:=J2 hs1 hb1
 have hnl:=hs1.len
 have HNL:=J hnl
 clear hs1 hb1 hnl
 dsimp only
 go_wp2_with fail
 go_loopw [3,5] (fun v i wr=>∃ k:Nat,k<=n1/\i=.int .i64 k/\v=.int .i64 (sumL (sizeC os) ((namesC os os).take k))/\Below w w wr/\Below w1 w1 wr) (fun _ i _=>n1-(intOf i).toNat)
 case atStart=>exact⟨0,by omega,rfl,rfl,HB1.out,Below.refl _ _⟩
 case round=>
  obtain⟨k,hk,rfl,rfl,hbw,hb1w⟩:=hrel
  have hkb:=HB.out.below hbw hlt
  have ho:=HO.out.below hbw
  have hs:=HS1.out.below hb1w
  obtain⟨HBW,HB1W,HKB,HOK⟩:=J4 hbw hb1w hkb ho
  clear hbw hb1w hkb ho
  rcases Nat.lt_or_ge k n1 with hk1|hk1
  ·obtain⟨ad,s,rfl,hab,hck,hc⟩:=hs.at_ hk1
   have hsum:sumL (sizeC os) ((namesC os os).take (k+1))=sumL (sizeC os) ((namesC os os).take k)+sizeC os s:=by
    rw [List.take_add_one,hck]
    exact sumL_snoc _ _ _
   have hlive:(liveC os s).isSome=true:=(((namesC_firsts os os).2 s).1 (List.mem_of_getElem? hck)).2
   have hb0:=sumL_fits HF.out ((namesC os os).take k)
   have hb2:=sizeC_fits HF.out s
   have hlt2:((namesC os os).take k).length<=100:=by rw [List.length_take];omega
   obtain⟨acc,hacc⟩:∃ acc,acc=sumL (sizeC os) ((namesC os os).take k):=⟨_,rfl⟩
   rw [<-hacc] at hb0 hsum ⊢
   have z1:IntKind.i64.wrap (acc+sizeC os s)=acc+sizeC os s:=by rw [IntKind.wrap_i64];omega
   obtain⟨HSUM,HLV⟩:=J2 hsum hlive
   have d1:decide ((k:Int)<(n1:Int))=true:=decide_eq_true (by omega)
   have d2:decide (k<n1)=true:=decide_eq_true hk1
   have z2:(0:Int)<=(k:Nat):=by omega
   have z3:((k:Nat):Int)<((n1:Nat):Int):=by omega
   clear hck hsum hlive hb0 hb2 hlt2 hacc hab hs
   go_wp2_with fail
   refine (rsheet12_any s wr HKB.out HOK.out (by omega)).mono ?_
   rintro x w2 ⟨z,B',p',q',rfl,hz,hb2⟩
   obtain rfl:=hz HLV.out
   have hb3:Below wr wr (w2.alloc (.cells #[.int .i64 (sizeC os s),.slice B' p' q'] 43)):=hb2.alloc hb2.size _
   have HB3:=J hb3
   clear hb2 hb3 hz
   dsimp only
   go_wp2
   refine⟨⟨k+1,hk1,rfl,by rw [HSUM.out],HBW.out.trans (HB3.out.mono HBW.out.size),HB1W.out.trans (HB3.out.mono HB1W.out.size)⟩,by simp only [intOf];omega⟩
  ·obtain rfl:k=n1:=by omega
   have d1:decide ((k:Int)<(k:Int))=false:=decide_eq_false (by omega)
   have d2:decide (k<k)=false:=decide_eq_false (by omega)
   clear hs
   go_wp2
   go_ret
   have e:(namesC os os).take k=namesC os os:=List.take_of_length_le (by have:=HNL.out;omega)
   rw [e,used_names]
   exact⟨rfl,HBW.out⟩
end
section
variable {w w1:World} {B g:Nat} {Y S:Nat->Prop} {k:Nat} {os:List OpC} {fence:Int} (kind epoch site:Int) (o:OpC) (hA:O) (hn hc:Nat) (after since:Int) (qA:O) (qn qc:Nat) (tag:Int)
section
variable {live:Bool}
section
variable (h:RLedIs w B g Y k os fence) (hB:B<=w) (hz1:w.heap.size+2<=w1) (hb1:Below w w w1) (h5:Blk w1 w 47 (cmdC kind epoch site o hA hn hc after since qA qn qc tag)) (h8:Blk w1 (w.heap.size+1) 50 #[.int .i64 0,.int .i64 0,.int .i64 0])
include h hB hz1 hb1 h5 h8
theorem rd13 (Q:Z) (a:Act) (hfr:Fr 144 a [(0,g),(3,(w:Nat)),(4,(w.heap.size+1:Nat))]) (hQ:∀ a' W,Fr 144 a' [(0,g),(3,(w:Nat)),(4,(w.heap.size+1:Nat)),(9,.bool (liveC os o.name).isSome)]->Below w1 w1 W->Q .normal a' W):(part [1,1,1,1,0] (codeOf rdoFF)).wp prog Q a w1:=by
 obtain⟨pA,pn,pc,lA,ln,lc,st,hgb,hop⟩:=(h.below hb1).open_
 have hpn:=hop.len
 have h80:=h.rows.len
 have k9:=h5.c1 9
 have HC:=J (rsheet12_any o.name w1 hgb hop (by omega))
 have HQ:=J hQ
 clear hQ h hb1 h5 hgb hop hpn h80
 refine gg hfr fun t=>?_
 go_wp2_with fail
 refine HC.out.mono ?_
 rintro x w2 ⟨z,B',p',q',rfl,-,hb2⟩
 have hb3:Below w1 w1 (w2.alloc (.cells #[.int .i64 z,.slice B' p' q'] 43)):=hb2.alloc hb2.size _
 have HB3:=J hb3
 clear hb2 hb3
 dsimp only
 exact Y179
theorem rdC_live (e1:(o.kind==1)=true) (a:Act) (hfr:Fr 144 a [(0,g),(3,(w:Nat)),(4,(w.heap.size+1:Nat)),(9,true)]) :
 (part [1,1,1,1,1] (codeOf rdoFF)).wp prog (bodyPost prog rdoFF (fun x w'=>(∃ e n ep,x=.returned (doneV e n ep))/\RActed B g Y k os fence w w')) a w1:=by
 obtain⟨H8,HB1,HZ1,H0⟩:=J4 h8 hb1 hz1 h
 have H1:=J (h.below hb1)
 have HB:=J hB
 have h80:=h.rows.len
 obtain⟨pA,pn,pc,lA,ln,lc,st,hgb,hos⟩:=(h.below hb1).open_
 have hpn:=hos.len
 have g0:=hgb.c1 0
 obtain⟨g4,g5⟩:=hgb.cs 4 2
 obtain⟨k1,k2,k3,k4,k5,k6,k7,k8,k9,k10,k11⟩:=h5.cs 1 11
 clear h hB hz1 hb1 h5 h8 hgb hos hpn h80
 refine gg hfr fun t=>?_
 have h82:=H8.out
 obtain⟨W,HWW,z0,z1,z2,HKK,HLL,y0,y1,y2,f0⟩:=de h82 122 0 0
 clear h82
 go_wp2
 rw [<-HWW.out]
 refine dr 122 0 0 ?_
 exact Y118
theorem rdC_k1 (e1:(o.kind==1)=true) (Q:Z) (a:Act) (hfr:Fr 144 a [(0,g),(3,(w:Nat)),(4,(w.heap.size+1:Nat)),(9,false)]) (hQ:∀ a' W,Fr 144 a' [(0,g),(3,(w:Nat)),(4,(w.heap.size+1:Nat)),(9,false)]->Below w1 w1 W->Q .normal a' W) :
 (part [1,1,1,1,1,0] (codeOf rdoFF)).wp prog Q a w1:=by
 exact Y44
section
variable (e1:(o.kind==1)=false) (Q:Z) (a:Act) (hfr:Fr 144 a [(0,g),(3,(w:Nat)),(4,(w.heap.size+1:Nat)),(9,live)]) (hQ:∀ a' W,Fr 144 a' [(0,g),(3,(w:Nat)),(4,(w.heap.size+1:Nat)),(9,live)]->Below w1 w1 W->Q .normal a' W)
include e1 Q a hfr hQ
theorem rdC_n1 :
 (part [1,1,1,1,1,0] (codeOf rdoFF)).wp prog Q a w1:=by
 exact Y44
theorem rdD_n1 :
 (part [1,1,1,1,1,1,0] (codeOf rdoFF)).wp prog Q a w1:=by
 obtain⟨HQ,H8,HB1,HZ1,H0⟩:=J5 hQ h8 hb1 hz1 h
 have H1:=J (h.below hb1)
 have HB:=J hB
 have h80:=h.rows.len
 obtain⟨pA,pn,pc,lA,ln,lc,st,hgb,hos⟩:=(h.below hb1).open_
 have hpn:=hos.len
 have g0:=hgb.c1 0
 obtain⟨g4,g5⟩:=hgb.cs 4 2
 obtain⟨k1,k2,k3,k4,k5,k6,k7,k8,k9,k10,k11⟩:=h5.cs 1 11
 clear h hB hz1 hb1 h5 h8 hgb hos hpn h80 hQ
 exact Y28
end
theorem rd16 (hk1:o.kind=1) (hsz:0<=o.size/\o.size<=512) (Q:Z) (a:Act) (hfr:Fr 144 a [(0,g),(3,(w:Nat)),(4,(w.heap.size+1:Nat)),(9,live)]) (hQ:∀ a' W,Fr 144 a' [(0,g),(3,(w:Nat)),(4,(w.heap.size+1:Nat)),(9,live),(114,(decide (65536<usedF os+o.size)))]->Below w1 w1 W->Q .normal a' W) :
 (part [1,1,1,1,1,1,0,0] (codeOf rdoFF)).wp prog Q a w1:=by
 have h80:=h.rows.len
 have hu:=usedF_fits os h.rows.fits
 have HF:=J h.rows.fits
 obtain⟨pA,pn,pc,lA,ln,lc,st,hgb,hos⟩:=(h.below hb1).open_
 have hpn:=hos.len
 have HPN:=J (show pn<=100 by omega)
 have z1:IntKind.i64.wrap (usedF os+o.size)=usedF os+o.size:=by rw [IntKind.wrap_i64];omega
 have e1:(o.kind==1)=true:=beq_iff_eq.2 hk1
 have hg':Blk w1.drew g 62 (rledC pA pn pc lA ln lc fence st):=hgb
 have h5':Blk w1.drew w.heap.size 47 (cmdC kind epoch site o hA hn hc after since qA qn qc tag):=h5
 have hop':OpsIs w1.drew Y pA pn pc os:=hos.below ⟨rfl,rfl,rfl,Nat.le_refl _,fun _ _=>rfl⟩
 have HQ:=J (show ∀ a' W,Fr 144 a' [(0,g),(3,(w:Nat)),(4,(w.heap.size+1:Nat)),(9,live),(114,(decide (65536<usedF os+o.size)))]->Below w1.drew.heap.size w1.drew W->Q .normal a' W from fun a' W hf hb=>hQ a' W hf ⟨hb.os,hb.tape,hb.output,hb.size,hb.block⟩)
 clear hQ h hb1 h5 hgb hos h80 hu hpn hk1 hsz
 obtain⟨w0,hw0⟩:∃ w0,w0=w1.drew:=⟨_,rfl⟩
 rw [<-hw0] at hg' h5' hop' HQ
 obtain⟨HG,H5,HOP,HW0⟩:=J4 hg' h5' hop' hw0
 clear hg' h5' hop' hw0
 refine gg hfr fun t=>?_
 refine wp_region_all kr (fun i v W=>match i with|0=>v=.pointer (some ⟨w.heap.size,3,none⟩)|1=>v=.pointer (some ⟨w.heap.size,5,none⟩)|2=>v=o.kind|3=>v=.bool true|4=>v=.bool true|5=>v=g|6=>v=.int .i64 (usedF os)|7=>v=.pointer (some ⟨w.heap.size,3,none⟩)|8=>v=.pointer (some ⟨w.heap.size,10,none⟩)|9=>v=.pointer (some ⟨w.heap.size,10,none⟩)|10=>v=o.size|11=>v=.int .i64 (usedF os+o.size)|12=>v=g|13=>v=g|14=>v=.pointer (some ⟨g,4,none⟩)|15=>v=.int .i64 65536|16=>v=.bool (decide (65536<usedF os+o.size))|17=>v=.bool (decide (65536<usedF os+o.size))|_=>True) (fun W=>Below w0 w0 W) (fun W W'=>Below W W W') kr ?hG ?hmono ?hstep ?hend
 case hG=>exact HW0.out▸Below.refl _ _
 case hmono=>exact fun _ _ _ _ _ h=>h
 case hstep=>
  intro i o F U W ho hGW hat hoff hp
  have hrefl:=fun W:World=>Below.refl W.heap.size W
  have:=ot 0 g
  have:=ot 3 (.pointer (some ⟨w.heap.size,0,none⟩))
  obtain⟨qa,qb⟩:=J2 hat hp
  clear hat hoff hp
  match i with
   | 0=>cases ho;exact vna
   | 1=>cases ho;have:=tx 0 97;exact vna
   | 2=>cases ho;have:=tx 1 98;have h5:=H5.out.below hGW H5.out.lt;have d0:=h5.c1 5;exact vna
   | 3=>cases ho;have:=tx 2 99;exact vno
   | 4=>cases ho;have:=tx 3 100;exact vna
   | 5|7|12=>cases ho;refine onv 4 101 ?_;exact vla
   | 6=>
    cases ho;refine onv 4 101 ?_;have:=tx 5 102
    refine wp_enter' 95 #[.pointer (some ⟨g,0,none⟩)] (by unfold execOp;go_simp) ?_
    refine (rused_any W (HG.out.below hGW HG.out.lt) (HOP.out.below hGW) HPN.out HF.out).mono ?_
    exact Y65
   | 8=>cases ho;refine onv 4 101 ?_;have:=tx 7 104;exact vla
   | 9=>cases ho;refine onv 4 101 ?_;have:=tx 8 105;exact vla
   | 10=>cases ho;refine onv 4 101 ?_;have:=tx 9 106;have h5:=H5.out.below hGW H5.out.lt;have d0:=h5.c1 10;exact vla
   | 11=>cases ho;refine onv 4 101 ?_;have:=tx 6 103;have:=tx 10 107;exact vlo
   | 13=>cases ho;refine onv 4 101 ?_;have:=tx 12 109;exact vla
   | 14=>cases ho;refine onv 4 101 ?_;have:=tx 13 110;exact vla
   | 15=>cases ho;refine onv 4 101 ?_;have:=tx 14 111;have hg:=HG.out.below hGW HG.out.lt;have d0:=hg.c1 4;exact vla
   | 16=>cases ho;refine onv 4 101 ?_;have:=tx 11 108;have:=tx 15 112;exact vlo
   | 17=>cases ho;have:=tx 4 101;have:=tx 16 113;exact vna
   | i+18=>exact absurd ho (by simp)
 case hend=>
  intro U W hGW hV
  have hx:U 17=.bool (decide (65536<usedF os+o.size)):=hV 17 kd
  obtain⟨HG,HX⟩:=J2 hGW hx
  clear hV hGW hx
  simp [putU,dstAt,Act.put]
  exact HQ.out _ _ ⟨rfl,rfl,rfl,rfl,rfl,rfl,HX.out,trivial⟩ HG.out
theorem rd17 (Q:Z) (hQ:∀ a W,bodyPost prog rdoFF (fun x w'=>(∃ e n ep,x=.returned (doneV e n ep))/\RActed B g Y k os fence w w') .ret a W->Q .ret a W) (a:Act) (hfr:Fr 144 a [(0,g),(3,(w:Nat)),(4,(w.heap.size+1:Nat)),(9,live),(114,true)]) :
 (part [1,1,1,1,1,1,0,1] (codeOf rdoFF)).wp prog Q a w1:=by
 obtain⟨HQ,H8,HB1,HZ1,H0⟩:=J5 hQ h8 hb1 hz1 h
 have H1:=J (h.below hb1)
 have HB:=J hB
 have h80:=h.rows.len
 obtain⟨pA,pn,pc,lA,ln,lc,st,hgb,hos⟩:=(h.below hb1).open_
 have hpn:=hos.len
 have g0:=hgb.c1 0
 obtain⟨g4,g5⟩:=hgb.cs 4 2
 obtain⟨k1,k2,k3,k4,k5,k6,k7,k8,k9,k10,k11⟩:=h5.cs 1 11
 clear h hB hz1 hb1 h5 h8 hgb hos hpn h80 hQ
 refine gg hfr fun t=>?_
 have h82:=H8.out
 obtain⟨W,HWW,z0,z1,z2,HKK,HLL,y0,y1,y2,f0⟩:=de h82 102 0 0
 clear h82
 go_wp2
 rw [<-HWW.out]
 refine HQ.out _ _ (dr 102 0 0 ?_)
 exact Y118
theorem rdE_nolive (e3:(o.kind==2)=true) (a:Act) (hfr:Fr 144 a [(0,g),(3,(w:Nat)),(4,(w.heap.size+1:Nat)),(9,false)]) :
 (part [1,1,1,1,1,1,1] (codeOf rdoFF)).wp prog (bodyPost prog rdoFF (fun x w'=>(∃ e n ep,x=.returned (doneV e n ep))/\RActed B g Y k os fence w w')) a w1:=by
 obtain⟨H8,HB1,HZ1,H0⟩:=J4 h8 hb1 hz1 h
 have H1:=J (h.below hb1)
 have HB:=J hB
 have h80:=h.rows.len
 obtain⟨pA,pn,pc,lA,ln,lc,st,hgb,hos⟩:=(h.below hb1).open_
 have hpn:=hos.len
 have g0:=hgb.c1 0
 obtain⟨g4,g5⟩:=hgb.cs 4 2
 obtain⟨k1,k2,k3,k4,k5,k6,k7,k8,k9,k10,k11⟩:=h5.cs 1 11
 clear h hB hz1 hb1 h5 h8 hgb hos hpn h80
 refine gg hfr fun t=>?_
 have h82:=H8.out
 obtain⟨W,HWW,z0,z1,z2,HKK,HLL,y0,y1,y2,f0⟩:=de h82 123 0 0
 clear h82
 go_wp2
 rw [<-HWW.out]
 refine dr 123 0 0 ?_
 exact Y118
theorem rdE_n0 (e3:(o.kind==2)=false) (hl:64<=os.length) (a:Act) (hfr:Fr 144 a [(0,g),(3,(w:Nat)),(4,(w.heap.size+1:Nat)),(9,live)]) :
 (part [1,1,1,1,1,1,1] (codeOf rdoFF)).wp prog (bodyPost prog rdoFF (fun x w'=>(∃ e n ep,x=.returned (doneV e n ep))/\RActed B g Y k os fence w w')) a w1:=by
 exact Y29
theorem rdE_n1 (hs:StrIs w1 S hA hn hc o.hs) (hop:os.length<64->opB (newOp os o epoch site)=true) (e3:(o.kind==2)=false) (hl:os.length<64) (a:Act) (hfr:Fr 144 a [(0,g),(3,(w:Nat)),(4,(w.heap.size+1:Nat)),(9,live)]) :
 (part [1,1,1,1,1,1,1] (codeOf rdoFF)).wp prog (bodyPost prog rdoFF (fun x w'=>(∃ e n ep,x=.returned (doneV e n ep))/\RActed B g Y k (os++[newOp os o epoch site]) fence w w')) a w1:=by
 exact Y14
theorem rdE_k0 (e3:(o.kind==2)=true) (hl:64<=os.length) (a:Act) (hfr:Fr 144 a [(0,g),(3,(w:Nat)),(4,(w.heap.size+1:Nat)),(9,true)]) :
 (part [1,1,1,1,1,1,1] (codeOf rdoFF)).wp prog (bodyPost prog rdoFF (fun x w'=>(∃ e n ep,x=.returned (doneV e n ep))/\RActed B g Y k os fence w w')) a w1:=by
 exact Y29
section
variable (hs:StrIs w1 S hA hn hc o.hs)
include hs
theorem rdE_k1 (hop:os.length<64->opB (newOp os o epoch site)=true) (e3:(o.kind==2)=true) (hl:os.length<64) (a:Act) (hfr:Fr 144 a [(0,g),(3,(w:Nat)),(4,(w.heap.size+1:Nat)),(9,true)]) :
 (part [1,1,1,1,1,1,1] (codeOf rdoFF)).wp prog (bodyPost prog rdoFF (fun x w'=>(∃ e n ep,x=.returned (doneV e n ep))/\RActed B g Y k (os++[newOp os o epoch site]) fence w w')) a w1:=by
 exact Y14
theorem rdo_tail (hsz:0<=o.size/\o.size<=512) (hop:os.length<64->opB (newOp os o epoch site)=true) (live:Bool) (a:Act) (hfr:Fr 144 a [(0,g),(3,(w:Nat)),(4,(w.heap.size+1:Nat)),(9,live)]) :
 (part [1,1,1,1,1] (codeOf rdoFF)).wp prog (bodyPost prog rdoFF (fun x w'=>(∃ e n ep,x=.returned (doneV e n ep))/\RActed B g Y k (if tailB os o.kind o.size live=true then os++[newOp os o epoch site] else os) fence w w')) a w1:=by
 by_cases k1:o.kind=1
 ·have e1:(o.kind==1)=true:=beq_iff_eq.2 k1
  have e3:(o.kind==2)=false:=beq_eq_false_iff_ne.2 (by omega)
  cases live with
  | true=>
   have t:tailB os o.kind o.size true=false:=by simp [tailB,k1]
   rw [t,if_neg Bool.false_ne_true]
   exact rdC_live kind epoch site o hA hn hc after since qA qn qc tag h hB hz1 hb1 h5 h8 e1 a hfr
  | false=>
   refine Ytaipgdhdfpemcaa.w2 ?_
   refine rdC_k1 kind epoch site o hA hn hc after since qA qn qc tag h hB hz1 hb1 h5 h8 e1 _ a hfr fun a2 w2 hf2 hb2=>?_
   have hb12:=hb1.trans (hb2.mono (by omega))
   have s2:=hb2.size
   show (part [1,1,1,1,1,1] (codeOf rdoFF)).wp prog _ a2 w2
   refine w2p fun K hK=>?_
   refine Ytaipgdhdfpemcaa.w2 ?_
   refine rd16 kind epoch site o hA hn hc after since qA qn qc tag h hB (by omega) hb12 (h5.below hb2 h5.lt) (h8.below hb2 h8.lt) k1 hsz _ a2 hf2 fun a3 w3 hf3 hb3=>?_
   have hb13:=hb2.trans (hb3.mono s2)
   have s3:=hb13.size
   have hbw3:=hb1.trans (hb13.mono (by omega))
   have h53:=h5.below hb13 h5.lt
   have h83:=h8.below hb13 h8.lt
   show (part [1,1,1,1,1,1,0,1] (codeOf rdoFF)).wp prog _ a3 w3
   by_cases q:65536<usedF os+o.size
   ·have t:tailB os o.kind o.size false=false:=by simp [tailB,k1,q]
    rw [t,if_neg Bool.false_ne_true]
    have hq:(decide (65536<usedF os+o.size))=true:=decide_eq_true q
    rw [hq] at hf3
    exact rd17 kind epoch site o hA hn hc after since qA qn qc tag h hB (by omega) hbw3 h53 h83 (Exit.then K (bodyPost prog rdoFF (fun x w'=>(∃ e n ep,x=.returned (doneV e n ep))/\RActed B g Y k os fence w w'))) (fun a W hh=>hh) a3 hf3
   ·have hq:(decide (65536<usedF os+o.size))=false:=decide_eq_false q
    rw [hq] at hf3
    refine wp_if (x:=part [1,1,1,1,1,1,0,1,0] (codeOf rdoFF)) (y:=part [1,1,1,1,1,1,0,1,1] (codeOf rdoFF)) (o:=.tmp 114) kr (eval_at hf3.2.2.2.2.2.2.1 rfl) (fun hx=>by cases hx) fun _=>?_
    refine wp_nop kr (hK a3 w3 ?_)
    have hf3':Fr 144 a3 [(0,g),(3,(w:Nat)),(4,(w.heap.size+1:Nat)),(9,false)]:=⟨hf3.1,hf3.2.1,hf3.2.2.1,hf3.2.2.2.1,hf3.2.2.2.2.1,hf3.2.2.2.2.2.1,trivial⟩
    rcases Nat.lt_or_ge os.length 64 with hl|hl
    ·have t:tailB os o.kind o.size false=true:=by simp [tailB,k1,hl];omega
     rw [t,if_pos rfl]
     exact rdE_n1 kind epoch site o hA hn hc after since qA qn qc tag h hB (by omega) hbw3 h53 h83 (hs.below hb13) hop e3 hl a3 hf3'
    ·have t:tailB os o.kind o.size false=false:=by simp [tailB,k1];omega
     rw [t,if_neg Bool.false_ne_true]
     exact rdE_n0 kind epoch site o hA hn hc after since qA qn qc tag h hB (by omega) hbw3 h53 h83 e3 hl a3 hf3'
 have e1:(o.kind==1)=false:=beq_eq_false_iff_ne.2 k1
 refine Ytaipgdhdfpemcaa.w2 ?_
 refine rdC_n1 kind epoch site o hA hn hc after since qA qn qc tag h hB hz1 hb1 h5 h8 e1 _ a hfr fun a2 w2 hf2 hb2=>?_
 have hb12:=hb1.trans (hb2.mono (by omega))
 have s2:=hb2.size
 show (part [1,1,1,1,1,1] (codeOf rdoFF)).wp prog _ a2 w2
 refine Ytaipgdhdfpemcaa.w2 ?_
 refine rdD_n1 kind epoch site o hA hn hc after since qA qn qc tag h hB (by omega) hb12 (h5.below hb2 h5.lt) (h8.below hb2 h8.lt) e1 _ a2 hf2 fun a3 w3 hf3 hb3=>?_
 have hb13:=hb2.trans (hb3.mono s2)
 have s3:=hb13.size
 have hbw3:=hb1.trans (hb13.mono (by omega))
 have h53:=h5.below hb13 h5.lt
 have h83:=h8.below hb13 h8.lt
 show (part [1,1,1,1,1,1,1] (codeOf rdoFF)).wp prog _ a3 w3
 by_cases k2:o.kind=2
 ·have e3:(o.kind==2)=true:=beq_iff_eq.2 k2
  cases live with
  | false=>
   have t:tailB os o.kind o.size false=false:=by simp [tailB,k2]
   rw [t,if_neg Bool.false_ne_true]
   exact rdE_nolive kind epoch site o hA hn hc after since qA qn qc tag h hB (by omega) hbw3 h53 h83 e3 a3 hf3
  | true=>
   rcases Nat.lt_or_ge os.length 64 with hl|hl
   ·have t:tailB os o.kind o.size true=true:=by simp [tailB,k2,hl]
    rw [t,if_pos rfl]
    exact rdE_k1 kind epoch site o hA hn hc after since qA qn qc tag h hB (by omega) hbw3 h53 h83 (hs.below hb13) hop e3 hl a3 hf3
   ·have t:tailB os o.kind o.size true=false:=by simp [tailB,k2];omega
    rw [t,if_neg Bool.false_ne_true]
    exact rdE_k0 kind epoch site o hA hn hc after since qA qn qc tag h hB (by omega) hbw3 h53 h83 e3 hl a3 hf3
 have e3:(o.kind==2)=false:=beq_eq_false_iff_ne.2 k2
 rcases Nat.lt_or_ge os.length 64 with hl|hl
 ·have t:tailB os o.kind o.size live=true:=by simp [tailB,k1,k2,hl]
  rw [t,if_pos rfl]
  exact rdE_n1 kind epoch site o hA hn hc after since qA qn qc tag h hB (by omega) hbw3 h53 h83 (hs.below hb13) hop e3 hl a3 hf3
 ·have t:tailB os o.kind o.size live=false:=by simp [tailB,k1,k2];omega
  rw [t,if_neg Bool.false_ne_true]
  exact rdE_n0 kind epoch site o hA hn hc after since qA qn qc tag h hB (by omega) hbw3 h53 h83 e3 hl a3 hf3
end
end
end
end
theorem rdo_any {w:World} {B g:Nat} {Y:Nat->Prop} {k:Nat} {os:List OpC} {fence:Int} (kind epoch site:Int) (o:OpC) (hA:O) (hn hc:Nat) (after since:Int) (qA:O) (qn qc:Nat) (tag:Int) {S:Nat->Prop} (ops:List OpC) (h:RLedIs w B g Y k os fence) (hB:B<=w) (hs:StrIs w S hA hn hc o.hs) (hsz:0<=o.size/\o.size<=512) (hop:os.length<64->opB (newOp os o epoch site)=true) :
 Calls prog 48 #[.pointer (some ⟨g,0,none⟩),.agg (cmdC kind epoch site o hA hn hc after since qA qn qc tag)] w fun x w'=>(∃ e n ep,x=.returned (doneV e n ep))/\RActed B g Y k (if doesB os fence ⟨kind,epoch,site,o,after,since,ops,tag⟩=true then os++[newOp os o epoch site] else os) fence w w':=by
 have he:doesB os fence ⟨kind,epoch,site,o,after,since,ops,tag⟩=(decide (epoch=fence)&&(decide (holderC os=(epoch,site))&&(turnB os o.client o.seq&&tailB os o.kind o.size (liveC os o.name).isSome))):=rfl
 rw [he]
 clear he
 obtain⟨R,hR⟩:∃ R,R=if (decide (epoch=fence)&&(decide (holderC os=(epoch,site))&&(turnB os o.client o.seq&&tailB os o.kind o.size (liveC os o.name).isSome)))=true then os++[newOp os o epoch site] else os:=⟨_,rfl⟩
 rw [<-hR]
 have h0:=h
 obtain⟨pA,pn,pc,lA,ln,lc,st,hgb,hos⟩:=h.open_
 have hpn:=hos.len
 have hgl:=hgb.lt
 have hr80:=h.rows.len
 obtain⟨w1,hw1,hz1,hb1,h5,h8⟩:=two_boxes w (cmdC kind epoch site o hA hn hc after since qA qn qc tag)
 have hg1:=hgb.below hb1 hgl
 have ho1:=hos.below hb1
 obtain⟨HW,H8,HB1,HZ1,H0,HB,HG,H5,HOS⟩:=J9 hw1 h8 hb1 hz1 h0 hB hg1 h5 ho1
 have HPN:=J hpn
 have HHOLD:=J (rholder_any w1 hg1 ho1 (by omega))
 have rest:∀ w2 nq (a:Act),Below w1 w1 w2->R=(if (turnB os o.client o.seq&&tailB os o.kind o.size (liveC os o.name).isSome)=true then os++[newOp os o epoch site] else os)->Fr 144 a [(0,g),(3,(w:Nat)),(4,(w.heap.size+1:Nat))]->(part [1,1,1] (codeOf rdoFF)).wp prog (bodyPost prog rdoFF fun x w'=>(∃ e n ep,x=.returned (doneV e n ep))/\RActed B g Y k R fence w w') a (w2.drewN nq):=by
  intro w2 nq a hb2' hRe hfr
  have hb2:Below w1 w1 (w2.drewN nq):=below_drewN hb2' nq
  have hbw:=hb1.trans (hb2.mono (by omega))
  have s2:=hb2.size
  have h52:=h5.below hb2 h5.lt
  have h82:=h8.below hb2 h8.lt
  refine w2p fun K hK=>?_
  refine rdo_loop kind epoch site o hA hn hc after since qA qn qc tag h hB (by omega) hbw h52 h82 a hfr (fun ht a3 w3 hf3 hb3=>hK a3 w3 ?_) fun ht=>?_
  ·rw [ht,Bool.true_and] at hRe
   have hb13:=hb2.trans (hb3.mono s2)
   have s3:=hb13.size
   have hbw3:=hb1.trans (hb13.mono (by omega))
   refine Ytaipgdhdfpemcaa.w2 ?_
   refine rd13 kind epoch site o hA hn hc after since qA qn qc tag h hB (by omega) hbw3 (h5.below hb13 h5.lt) (h8.below hb13 h8.lt) _ a3 hf3 fun a4 w4 hf4 hb4=>?_
   have hb14:=hb13.trans (hb4.mono s3)
   have s4:=hb14.size
   rw [hRe]
   exact rdo_tail kind epoch site o hA hn hc after since qA qn qc tag h hB (by omega) (hb1.trans (hb14.mono (by omega))) (h5.below hb14 h5.lt) (h8.below hb14 h8.lt) (hs.below (hb1.trans (hb14.mono (by omega)))) hsz hop _ a4 hf4
  ·rw [hRe,ht,Bool.false_and,if_neg Bool.false_ne_true]
 have HT:=J rest
 obtain⟨hE,hS,hhold⟩:∃ hE hS,holderC os=(hE,hS):=⟨_,_,rfl⟩
 rw [hhold] at HHOLD hR
 have HR:=J hR
 clear h0 h hgb hos hpn hr80 hw1 hz1 hb1 h5 h8 hg1 ho1 hB rest hhold hR hs hsz hop
 cases d1:(epoch != fence) with
 | true=>
  have q1:¬ epoch=fence:=by simpa using d1
  have hRf:R=os:=by
   rw [HR.out]
   rw [decide_eq_false q1,Bool.false_and,if_neg Bool.false_ne_true]
  have HRF:=J hRf
  clear hRf q1
  exact Y7
 | false=>
  cases d2:(hE != epoch) with
  | true=>
   have q2:¬ hE=epoch:=by simpa using d2
   have hRf:R=os:=by
    rw [HR.out]
    rw [decide_eq_false (p:=(hE,hS)=(epoch,site)) fun e=>q2 (congrArg Prod.fst e),Bool.false_and,Bool.and_false,if_neg Bool.false_ne_true]
   have HRF:=J hRf
   clear hRf q2
   exact Y7
  | false=>
   cases d3:(hS != site) with
   | true=>
    have q3:¬ hS=site:=by simpa using d3
    have hRf:R=os:=by
     rw [HR.out]
     rw [decide_eq_false (p:=(hE,hS)=(epoch,site)) fun e=>q3 (congrArg Prod.snd e),Bool.false_and,Bool.and_false,if_neg Bool.false_ne_true]
    have HRF:=J hRf
    clear hRf q3
    exact Y7
   | false=>
    have q1:epoch=fence:=by simpa using d1
    have q2:hE=epoch:=by simpa using d2
    have q3:hS=site:=by simpa using d3
    have hRf:R=(if (turnB os o.client o.seq&&tailB os o.kind o.size (liveC os o.name).isSome)=true then os++[newOp os o epoch site] else os):=by
     rw [HR.out,decide_eq_true q1,decide_eq_true (p:=(hE,hS)=(epoch,site)) (by rw [q2,q3]),Bool.true_and,Bool.true_and]
    have HRF:=J hRf
    clear hRf q1 q2 q3
    go_enter func48,ntmps48
    conv=>arg 2;arg 2;arg 2;arg 2;change part [1,1,1] (codeOf rdoFF)
    go_wp2_with fail
    rw [<-HW.out]
    refine HHOLD.out.mono ?_
    rintro x w2 ⟨rfl,hb12⟩
    have h5:=H5.out.below hb12 H5.out.lt
    have hg:=HG.out.below hb12 HG.out.lt
    obtain⟨w3,hw3⟩:∃ w3,w3=w2.alloc (.cells #[.int .i64 hE,.int .i64 hS] 93):=⟨_,rfl⟩
    have hb23:Below w2 w2 w3:=by rw [hw3];exact (Below.refl _ _).alloc (Nat.le_refl _) _
    have hgr:Blk w3 w2 93 #[.int .i64 hE,.int .i64 hS]:=by rw [hw3];exact Blk.new _ _ _
    exact Y20
end Go.Proofs.Ytaipgdhdfpemcaa
