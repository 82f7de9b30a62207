/- THE WALKS OF THE LANE, part 1. -/
import Derived.ArgAppend
import Derived.Below
import Derived.BigQuiet
import Derived.ChangeOld
import Derived.ChangeSame
import Derived.Deep.AppendLies
import Derived.Deep.DeepCutAuto
import Derived.Deep.Draws
import Derived.Deep.Fields
import Derived.Deep.MidRow
import Derived.Deep.OwnRows
import Derived.Deep.QuietTactic
import Derived.Deep.Slices
import Derived.DeepKeys4
import Derived.IntWalk
import Derived.Laws.OwnMore
import Derived.Laws.Rows
import Derived.Lib.Hide
import Derived.Lib.SliceRun
import Derived.Lib.SmallJoins
import Derived.Maps.AppendAt
import Derived.Maps.OwnSet
import Derived.Maps.Views
import Derived.OpenShut
import Derived.Orders
import Derived.OwnWalk
import Derived.ProofKit
import Derived.RegionTactic
import Derived.Says
import Derived.ShutString
import Derived.SizedLaws
import Derived.SliceStrings
import Derived.StillTailTactics
import Derived.StringKeys
import Derived.Tactics2
import Derived.WalkKit
import Derived.WalkLawsBesides
import Derived.WalkSpells
import Derived.WideMake
import Derived.WideShapes
namespace Go.Proofs.Ytaipgdhdfpemcaa
set_option linter.all false
open Go.RowKit
set_option maxRecDepth 100000
set_option maxHeartbeats 4000000
abbrev Z:=Exit->Act->World->Prop
abbrev O:=Option Addr
instance:Coe Nat Value:=⟨fun b=>.pointer (some ⟨b,0,none⟩)⟩
instance:Coe Int Value:=⟨fun z=>.int .i64 z⟩
instance:Coe Bool Value:=⟨fun b=>.bool b⟩
instance:Coe World Nat:=⟨fun w=>w.heap.size⟩
theorem kd {p:Prop} [Decidable p] (h:decide p=true:=by kernel_rfl):p:=of_decide_eq_true h
theorem kr {α:Type} {x y:α} (h:x=y:=by kernel_rfl):x=y:=h
theorem ff {p:Prop} (h:p:=by repeat' first|exact rfl|exact trivial|apply And.intro):p:=h
section
variable {a b c d e f g h i:Prop}
theorem J (x:a):Hid a:=x
theorem J2 (x:a) (y:b):Hid a/\Hid b:=⟨x,y⟩
theorem J3 (x:a) (y:b) (z:c):Hid a/\Hid b/\Hid c:=⟨x,y,z⟩
theorem J4 (x:a) (y:b) (z:c) (u:d):Hid a/\Hid b/\Hid c/\Hid d:=⟨x,y,z,u⟩
theorem J5 (x:a) (y:b) (z:c) (u:d) (v:e):Hid a/\Hid b/\Hid c/\Hid d/\Hid e:=⟨x,y,z,u,v⟩
theorem J6 (x:a) (y:b) (z:c) (u:d) (v:e) (r:f):Hid a/\Hid b/\Hid c/\Hid d/\Hid e/\Hid f:=⟨x,y,z,u,v,r⟩
theorem J7 (x:a) (y:b) (z:c) (u:d) (v:e) (r:f) (s:g):Hid a/\Hid b/\Hid c/\Hid d/\Hid e/\Hid f/\Hid g:=⟨x,y,z,u,v,r,s⟩
theorem J8 (x:a) (y:b) (z:c) (u:d) (v:e) (r:f) (s:g) (t:h):Hid a/\Hid b/\Hid c/\Hid d/\Hid e/\Hid f/\Hid g/\Hid h:=⟨x,y,z,u,v,r,s,t⟩
theorem J9 (x:a) (y:b) (z:c) (u:d) (v:e) (r:f) (s:g) (t:h) (k:i):Hid a/\Hid b/\Hid c/\Hid d/\Hid e/\Hid f/\Hid g/\Hid h/\Hid i:=⟨x,y,z,u,v,r,s,t,k⟩
end
theorem Y1 {p:Prop} (h:p:=by
 go_wp2_with fail
 refine (cloneOps_some ad n c ds w HR.out hn).mono ?_
 rintro x w1 ⟨g,c',cur,rfl,hc1,hcm,hg,hbk,hrd,hb⟩
 obtain⟨HB,HK,HD,HCM⟩:=J4 hb hbk hrd hcm
 clear hb hbk hrd hcm
 go_wp2_with fail
 go_loopw [9] (fun i wr=>∃ (k:Nat) (cu:Array Value) (pre post:List Opd),k<=n/\i=.int .i64 k/\pre.length=k/\(pre++post).length=n/\Blk wr g 45 cu/\Reads wr wr.heap.size 9 (some ⟨g,0,none⟩) n (opsV (pre++post))/\OpsV wr (Off w.heap.size (some g)) pre (cs.take k)/\OpsV wr (fun b=>b<w) post (cs.drop k)/\Below w w wr) (fun i _=>n-(intOf i).toNat)
 case atStart=>exact⟨0,cur,[],ds,by omega,rfl,rfl,by have:=HDL.out;have:=HL.out;simp;omega,HK.out,HD.out,by simp [OpsV],HV.out.kept ⟨HB.out.size,fun b hb _=>HB.out.block b hb⟩,HB.out⟩
 case round=>
  obtain⟨k,cu,pre,post,hk,rfl,hpl,htl,hbk,hrd,hov,hop,hb⟩:=hrel
  rcases Nat.lt_or_ge k n with hk1|hk1
  ·obtain ⟨o, post', rfl⟩ : ∃ o post', post = o :: post' := by
    cases post with
    | nil=>simp at htl;omega
    | cons o p=>exact⟨o,p,rfl⟩
   obtain⟨cc,cs',hcs,⟨hA,hn',hc,rfl,hss⟩,hop'⟩:=hop.split
   have hck:cs[k]? = some cc:=by
    have:=congrArg (fun l:List OpC=>l[0]?) hcs
    simpa using this
   have hdrop:cs.drop (k+1)=cs':=by
    have:=congrArg (fun l:List OpC=>l.drop 1) hcs
    simpa [List.drop_drop,Nat.add_comm] using this
   have htake:cs.take (k+1)=cs.take k++[cc]:=by rw [List.take_add_one,hck];rfl
   have hz:=(HO.out cc (List.mem_of_getElem? hck)).hs
   have hsl:=hss.len
   have hxl:(opsV (pre++cc.at_ hA hn' hc::post')).length=n*9:=hrd.1
   obtain⟨ad2,ea,_,hcell⟩:=hrd.2 (by omega)
   injection ea with ea
   subst ea
   have hcell8:wr.cell? ⟨g,k*9+7+1,none⟩=some (.slice hA hn' hc):=by
    have h1:=hcell (k*9+8) (.slice hA hn' hc) (by
     rw [opsV_append,List.getElem?_append_right (by rw [opsV_len];omega),opsV_len,hpl,show k*9+8-k*9=8 by omega,opsV_cons]
     simp [Opd.cells,OpC.at_])
    have e:(⟨g,0,none⟩:Addr).add (k*9+8)=⟨g,k*9+7+1,none⟩:=by unfold Addr.add;rw [if_neg (by omega)];simp
    rwa [e] at h1
   obtain⟨HT,HDR,HPL,HTL,HBK,HRD,HOV,HOP,HBW⟩:=J9 htake hdrop hpl htl hbk hrd hov hop' hb
   have HSS:=J hss
   clear htake hdrop hpl htl hbk hrd hov hop hop' hb hcell hck hcs hxl
   go_wp2_with fail
   refine (cloneStr_any wr HSS.out (by omega)).mono ?_
   rintro x w3 ⟨A3,c3,rfl,h3,hb3⟩
   have hbk3:=HBK.out.below hb3 HBK.out.lt
   have f8:=hbk3.frozen (k*9+7+1)
   have d8:w3.cell? ⟨g,k*9+7+1,none⟩=some (.slice hA hn' hc):=(hb3.cell (p:=⟨g,k*9+7+1,none⟩) HBK.out.lt).trans hcell8
   obtain⟨HK3,H3,HB3⟩:=J3 hbk3 h3 hb3
   clear hcell8 hbk3 h3 hb3
   go_wp2
   go_roundw
   case rel=>
    have hset:=(((HRD.out.below HB3.out).more HB3.out.size).set_ (k*9+8) (.slice A3 hn' c3) (by have:=HRD.out.1;omega) (by omega))
    have e:(⟨g,0,none⟩:Addr).add (k*9+8)=⟨g,k*9+7+1,none⟩:=by unfold Addr.add;rw [if_neg (by omega)];simp
    have hpl:=HPL.out
    rw [e,<-hpl,opsV_set,hpl] at hset
    have hk3:Kept (Off w.heap.size (some g)) wr (w3.setCell ⟨g,k*9+7+1,none⟩ (.slice A3 hn' c3)):=(Kept.of _ HB3.out).set_ ⟨g,k*9+7+1,none⟩ (.inl fun h=>h.2 rfl) _
    have hk4:Kept (fun b=>b<w) wr (w3.setCell ⟨g,k*9+7+1,none⟩ (.slice A3 hn' c3)):=(Kept.of _ HB3.out).set_ ⟨g,k*9+7+1,none⟩ (.inl (by show ¬ g<w;omega)) _
    have hgl:=HBK.out.lt
    have hwr:=HBW.out.size
    have hnew:StrIs (w3.setCell ⟨g,k*9+7+1,none⟩ (.slice A3 hn' c3)) (Off w.heap.size (some g)) A3 hn' c3 cc.hs:=
     (H3.out.kept ((Kept.refl _ _).set_ ⟨g,k*9+7+1,none⟩ (.inl (by show ¬ wr.heap.size<=g;omega)) _)).mono fun b _ h=>⟨by have:wr.heap.size<=b:=h;omega,fun e=>by injection e with e;have:wr.heap.size<=b:=h;omega⟩
    refine⟨k+1,cu.setIfInBounds (k*9+7+1) (.slice A3 hn' c3),pre++[cc.at_ A3 hn' c3],post',by omega,by go_num,by simp [hpl],by have:=HTL.out;simp at this ⊢;omega,HK3.out.set_ _ _,?_,?_,?_,?_⟩
    ·have e2:(w3.setCell ⟨g,k*9+7+1,none⟩ (.slice A3 hn' c3)).heap.size=w3.heap.size:=by simp
     rw [e2,List.append_assoc]
     exact hset
    ·rw [HT.out]
     exact (HOV.out.kept hk3).snoc ⟨A3,hn',c3,rfl,hnew⟩
    ·rw [HDR.out]
     exact HOP.out.kept hk4
    ·exact (HBW.out.trans (HB3.out.mono HBW.out.size)).setCell (p:=⟨g,_,none⟩) hg _
   case measure=>simp [intOf];omega
  ·obtain rfl:n=k:=by omega
   have hp0:post=[]:=by
    apply List.eq_nil_of_length_eq_zero
    simp at htl
    omega
   subst hp0
   rw [List.append_nil] at hrd
   rw [List.take_of_length_le (by rw [HL.out];exact Nat.le_refl _)] at hov
   obtain⟨HRD,HOV,HBW⟩:=J3 hrd hov hb
   clear hbk hrd hov hop hb
   go_wp2
   go_ret
   exact⟨_,c',rfl,⟨pre,Rs.of HRD.out fun _ ad e=>by injection e with e;subst e;exact hg,HOV.out.mono fun b _ h=>h.1,hc1,HCM.out⟩,HBW.out⟩):p:=h
theorem Y2 {p:Prop} (h:p:=by
 intro i o F U W ho hGW hat hoff hp
 have hrefl:=fun W:World=>Below.refl W.heap.size W
 have:=ot 0 (.slice (some ad) n cap)
 have:=ot 6 (.pointer (some ⟨w.heap.size,0,none⟩))
 obtain⟨qa,qb⟩:=J2 hat hp
 clear hat hoff hp
 match i with
  | 0=>
   cases ho;refine on_ (wanted_none rfl) ?_;obtain⟨c0,c1⟩:=hGW.2.cs 0 2
   exact wp_value' (.agg #[.int .i64 ((k:Int)+1),E]) W (by unfold execOp;go_simp) ⟨_,rfl,rfl,hGW,hrefl W⟩
  | 1=>cases ho;exact vno
  | 2=>
   cases ho;have:=tx 0 13;have:=tx 1 14
   exact vna (h:=by unfold execOp;go_simp;(by_cases q1:((k:Int)+1)=0<;>by_cases q2:E=0<;>first|omega|simp_all))
  | 3=>cases ho;have:=tx 2 15;exact vna
  | 4=>cases ho;refine onv 3 16 ?_;exact vlo
  | 5=>
   cases ho;refine onv 3 16 ?_;have:=tx 4 17;have c0:=hGW.2.c1 0
   exact wp_value' (.int .i64 ((k:Int)+1)) W (by unfold execOp;go_simp) ⟨_,rfl,rfl,hGW,hrefl W⟩
  | 6=>cases ho;refine onv 3 16 ?_;have:=tx 5 18;exact vlo
  | 7=>cases ho;refine onv 3 16 ?_;have:=tx 6 19;exact vla
  | 8=>cases ho;refine onv 7 20 ?_;exact vlo
  | 9=>
   cases ho;refine onv 7 20 ?_;have:=tx 8 21;have c0:=hGW.2.c1 0
   exact wp_value' (.int .i64 ((k:Int)+1)) W (by unfold execOp;go_simp) ⟨_,rfl,rfl,hGW,hrefl W⟩
  | 10=>cases ho;refine onv 7 20 ?_;exact vla
  | 11=>cases ho;refine onv 7 20 ?_;have:=tx 10 23;exact vlo
  | 12=>cases ho;refine onv 7 20 ?_;have:=tx 9 22;have:=tx 11 24;exact vlo
  | 13=>cases ho;refine onv 3 16 ?_;have:=tx 7 20;have:=tx 12 25;exact vlo
  | 14=>cases ho;refine onv 3 16 ?_;have:=tx 13 26;exact vla
  | 15=>cases ho;refine onv 14 27 ?_;exact vla
  | 16=>cases ho;refine onv 14 27 ?_;exact vlo
  | 17=>
   cases ho;refine onv 14 27 ?_;have:=tx 16 29;have c0:=hGW.2.c1 0
   exact wp_value' (.int .i64 ((k:Int)+1)) W (by unfold execOp;go_simp) ⟨_,rfl,rfl,hGW,hrefl W⟩
  | 18=>cases ho;refine onv 14 27 ?_;have:=tx 17 30;exact vlo
  | 19=>cases ho;refine onv 14 27 ?_;have:=tx 15 28;have:=tx 18 31;exact vlo
  | 20=>
   cases ho;refine onv 14 27 ?_;have:=tx 19 32;obtain⟨k0,k1,k2,k3,k4,k5,k6,k7,k8⟩:=HP.out.below hGW.1 HAB.out
   exact wp_value' (.agg #[.int .i64 x1,.int .i64 x2,.int .i64 x3,.int .i64 x4,.int .i64 x5,.int .i64 x6,.string x7,.int .i64 x8,.slice hA hn hc]) W (by unfold execOp;go_simp) ⟨_,rfl,rfl,hGW,hrefl W⟩
  | 21=>
   cases ho;refine onv 14 27 ?_;have:=tx 20 33
   refine wp_enter' 59 #[.agg #[.int .i64 x1,.int .i64 x2,.int .i64 x3,.int .i64 x4,.int .i64 x5,.int .i64 x6,.string x7,.int .i64 x8,.slice hA hn hc]] (by unfold execOp;go_simp) ?_
   refine (spot_any x1 x2 x3 x4 x5 x6 x7 x8 (.slice hA hn hc) W).mono ?_
   rintro e W' ⟨rfl,hb⟩
   exact⟨_,rfl,_,rfl,rfl,⟨hGW.1.trans (hb.mono hGW.1.size),hGW.2.below hb hGW.2.lt⟩,hb⟩
  | 22=>
   cases ho;refine onv 14 27 ?_;obtain⟨c0,c1⟩:=hGW.2.cs 0 2
   exact wp_value' (.agg #[.int .i64 ((k:Int)+1),E]) W (by unfold execOp;go_simp) ⟨_,rfl,rfl,hGW,hrefl W⟩
  | 23=>
   cases ho;refine onv 14 27 ?_;have:=tx 21 34;have:=tx 22 35
   exact vla (h:=by unfold execOp;go_simp;all_goals (by_cases q1:x1=(k:Int)+1<;>by_cases q2:x2=E<;>first|omega|simp_all))
  | 24=>cases ho;refine onv 3 16 ?_;have:=tx 14 27;have:=tx 23 36;exact vlo
  | 25=>cases ho;have:=tx 3 16;have:=tx 24 37;exact vno
  | i+26=>exact absurd ho (by simp)):p:=h
theorem Y3 {p:Prop} (h:p:=by
 have h0:=h
 have hu:=usedF_fits os h.rows.fits
 have hlen:=h.rows.len
 obtain⟨m1,m2,pA,pn,pc,lA,ln,lc,settled,hgb,hos,hlive,hlast⟩:=h.open_
 have hpn:=hos.len
 have hgl:=hgb.lt
 have hg1:=hgb.below hb1 hgl
 obtain⟨H8,HB1,HZ1,H0⟩:=J4 h8 hb1 hz1 h0
 have H1:=J (h0.below hb1)
 obtain⟨HB,HPN,HS,HOP⟩:=J4 hB hpn hs hop
 have z1:IntKind.i64.wrap (usedF os+o.size)=usedF os+o.size:=by rw [IntKind.wrap_i64];omega
 have HL:=J hl
 have d9:decide ((64:Int)<=(pn:Int))=false:=decide_eq_false (by omega)
 have g1:=hg1.c1 1
 have g5:=hg1.c1 5
 obtain⟨g9,g10⟩:=hg1.cs 9 2
 obtain⟨k1,k2⟩:=h5.cs 1 2
 obtain⟨o0,o1,o2,o3,o4,o5,o6,o7,o8⟩:=hbo.cs 0 9
 clear h0 h hgb hos hpn hlive hlast hz1 hb1 h5 h8 hg1 hB hbo hs hsz hop hu hlen hl
 refine gg hfr fun t=>?_
 go_wp2_with fail
 go_quiet (fail)
 go_wp2_with fail
 go_quiet (fail)
 go_wp2_with fail
 have hBw:=HB.out
 have hzz:=HZ1.out
 have hqq:=HB1.out.size
 refine (put_led (S:=S) (o:=o) (A:=hA) (n:=hn) (c:=hc) epoch site (H1.out.below (below_drewN (Below.refl _ _) _)) (HS.out.below (below_drewN (Below.refl _ _) _)) (by have:=HL.out;omega) (HOP.out (by have:=HL.out;omega)) (by show B<=w1;omega)).mono ?_
 rintro x w2 ⟨rfl,ha⟩
 have h82:Blk w2 (w.heap.size+1) 50 #[.int .i64 0,.int .i64 0,.int .i64 0]:=(ha.2.1.2 (w.heap.size+1) (fun hy=>by have:=(H0.out.1 _ hy).2;omega) (by show w.heap.size+1<w1;omega)).trans H8.out
 have HA:=J ha
 dsimp only
 obtain⟨W,HWW,z0,z1,z2,HKK,HLL,y0,y1,y2,f0⟩:=de h82 0 ((os.length:Int)+1) epoch
 clear ha hBw hzz hqq
 clear h82
 go_wp2
 rw [<-HWW.out]
 refine dr 0 ((os.length:Int)+1) epoch ?_
 exact⟨⟨_,_,_,rfl⟩,Acted.boxed H0.out.1 HB.out (below_drewN HB1.out _) HA.out ⟨by omega,by have:=HZ1.out;show w.heap.size+1<w1;omega⟩ HKK.out HLL.out⟩):p:=h
theorem Y4 {p:Prop} (h:p:=by
 go_enter func50,ntmps50
 conv=>arg 2;arg 2;arg 2;arg 2;arg 2;change part [1,1,1,1] (codeOf rmarkFF)
 go_wp2_with fail
 rw [<-HW.out]
 refine HHOLD.out.mono ?_
 rintro x w2 ⟨rfl,hb12⟩
 have h5:=H5.out.below hb12 H5.out.lt
 have hg:=HG.out.below hb12 HG.out.lt
 obtain⟨k1,k2⟩:=h5.cs 1 2
 obtain⟨k12,k13⟩:=h5.cs 12 2
 have g0:=hg.c1 0
 have g2:=hg.c1 2
 obtain⟨w3,hw3⟩:∃ w3,w3=w2.alloc (.cells #[.int .i64 hE,.int .i64 hS] 93):=⟨_,rfl⟩
 have hb23:Below w2 w2 w3:=by rw [hw3];exact (Below.refl _ _).alloc (Nat.le_refl _) _
 have hgr:Blk w3 w2 93 #[.int .i64 hE,.int .i64 hS]:=by rw [hw3];exact Blk.new _ _ _
 have hb13:Below w1 w1 w3:=hb12.trans (hb23.mono hb12.size)
 have h5:=H5.out.below hb13 H5.out.lt
 have hg:=HG.out.below hb13 HG.out.lt
 obtain⟨m1,m2⟩:=h5.cs 1 2
 obtain⟨m12,m13⟩:=h5.cs 12 2
 have n0:=hg.c1 0
 have n2:=hg.c1 2
 obtain⟨r0,r1⟩:=hgr.cs 0 2
 have HW3:=J hw3
 have K8:=J (H8.out.below hb13 H8.out.lt)
 have KB1:=J (HB1.out.trans (hb13.mono (by have:=HZ1.out;omega)))
 have KO:=J (HOS.out.below hb13)
 have KT:=J hb13
 clear h5 hg hw3 hb23 hgr hb12 hb13
 dsimp only
 go_wp2_with fail
 rw [<-HW3.out]
 go_quiet (fail)
 have h82:=K8.out.drewN nq
 obtain⟨W,HWW,z0,z1,z2,HKK,HLL,y0,y1,y2,f0⟩:=de h82 120 0 0
 clear h82
 go_wp2
 rw [<-HWW.out]
 refine dr 120 0 0 ?_
 exact⟨⟨_,_,_,rfl⟩,RActed.idle H0.out ((below_drewN KB1.out nq).trans (HLL.out.mono (by omega))) HB.out⟩):p:=h
theorem Y5 {p:Prop} (h:p:=by
 have h0:=h
 have hu:=usedF_fits os h.rows.fits
 have hlen:=h.rows.len
 obtain⟨m1,m2,pA,pn,pc,lA,ln,lc,settled,hgb,hos,hlive,hlast⟩:=h.open_
 have hpn:=hos.len
 have hgl:=hgb.lt
 have hg1:=hgb.below hb1 hgl
 obtain⟨H8,HB1,HZ1,H0⟩:=J4 h8 hb1 hz1 h0
 have H1:=J (h0.below hb1)
 obtain⟨HB,HPN,HS,HOP⟩:=J4 hB hpn hs hop
 have z1:IntKind.i64.wrap (usedF os+o.size)=usedF os+o.size:=by rw [IntKind.wrap_i64];omega
 have d9:decide ((64:Int)<=(pn:Int))=true:=decide_eq_true (by omega)
 have g1:=hg1.c1 1
 have g5:=hg1.c1 5
 obtain⟨g9,g10⟩:=hg1.cs 9 2
 obtain⟨k1,k2⟩:=h5.cs 1 2
 obtain⟨o0,o1,o2,o3,o4,o5,o6,o7,o8⟩:=hbo.cs 0 9
 clear h0 h hgb hos hpn hlive hlast hz1 hb1 h5 h8 hg1 hB hbo hs hsz hop hu hlen hl
 refine gg hfr fun t=>?_
 go_wp2_with fail
 go_quiet (fail)
 go_wp2_with fail
 go_quiet (fail)
 go_wp2_with fail
 refine (failed_any _ _).mono ?_
 rintro x w2 ⟨rfl,hb2⟩
 have hb2':Below w1 w1 w2:=⟨hb2.os,hb2.tape,hb2.output,hb2.size,hb2.block⟩
 have h82:=H8.out.below hb2' H8.out.lt
 obtain⟨W,hW,z0,z1,z2,hk,hl⟩:=done_end h82 rfl (.int .i64 125) (.int .i64 0) (.int .i64 0)
 obtain⟨y0,y1,y2⟩:=h82.cs 0 3
 have f0:=h82.frozen
 obtain⟨HWW,HKK,HLL,HB2⟩:=J4 hW hk hl hb2'
 clear hb2 hb2'
 clear h82 hk hl hW
 go_wp2
 rw [<-HWW.out]
 refine dr 125 0 0 ?_
 exact⟨⟨_,_,_,rfl⟩,Acted.idle H0.out (HB1.out.trans ((HB2.out.mono (by have:=HZ1.out;omega)).trans (HLL.out.mono (by omega)))) HB.out⟩):p:=h
theorem Y6 {p:Prop} (h:p:=by
 intro i o F U W ho hGW hat hoff hp
 have hrefl:=fun W:World=>Below.refl W.heap.size W
 have:=ot 0 (.slice (some ad) n cap)
 have:=ot 3 (.pointer (some ⟨w.heap.size,0,none⟩))
 obtain⟨qa,qb⟩:=J2 hat hp
 clear hat hoff hp
 match i with
  | 0=>cases ho;obtain⟨d0,d1⟩:=hGW.2.cs 0 2;exact vna
  | 1=>cases ho;exact vna
  | 2=>
   cases ho;have:=tx 0 5;have:=tx 1 6
   exact vna (h:=by unfold execOp;go_simp;all_goals (by_cases q1:((k:Int)+1)=0<;>by_cases q2:E=0<;>first|omega|simp_all))
  | 3=>cases ho;have:=tx 2 7;exact vna
  | 4=>cases ho;refine onv 3 8 ?_;exact vla
  | 5=>cases ho;refine onv 3 8 ?_;have:=tx 4 9;have d0:=hGW.2.c1 0;exact vla
  | 6=>cases ho;refine onv 3 8 ?_;have:=tx 5 10;exact vlo
  | 7=>cases ho;refine onv 3 8 ?_;have:=tx 6 11;exact vla
  | 8|10=>cases ho;refine onv 7 12 ?_;exact vla
  | 9=>cases ho;refine onv 7 12 ?_;have:=tx 8 13;have d0:=hGW.2.c1 0;exact vla
  | 11=>cases ho;refine onv 7 12 ?_;have:=tx 10 15;exact vla
  | 12=>cases ho;refine onv 7 12 ?_;have:=tx 9 14;have:=tx 11 16;exact vlo
  | 13=>cases ho;refine onv 3 8 ?_;have:=tx 7 12;have:=tx 12 17;exact vla
  | 14=>cases ho;refine onv 3 8 ?_;have:=tx 13 18;exact vla
  | 15|16=>cases ho;refine onv 14 19 ?_;exact vla
  | 17=>cases ho;refine onv 14 19 ?_;have:=tx 16 21;have d0:=hGW.2.c1 0;exact vla
  | 18=>cases ho;refine onv 14 19 ?_;have:=tx 17 22;exact vlo
  | 19=>cases ho;refine onv 14 19 ?_;have:=tx 15 20;have:=tx 18 23;exact vlo
  | 20=>
   cases ho;refine onv 14 19 ?_;have:=tx 19 24;obtain⟨k0,k1,k2,k3,k4,k5,k6,k7,k8⟩:=HP.out.below hGW.1 HAB.out
   exact wp_value' (.agg #[.int .i64 x1,.int .i64 x2,.int .i64 x3,.int .i64 x4,.int .i64 x5,.int .i64 x6,.string x7,.int .i64 x8,.slice hA hn hc]) W (by unfold execOp;go_simp) ⟨_,rfl,rfl,hGW,hrefl W⟩
  | 21=>
   cases ho;refine onv 14 19 ?_;have:=tx 20 25
   refine wp_enter' 68 #[.agg #[.int .i64 x1,.int .i64 x2,.int .i64 x3,.int .i64 x4,.int .i64 x5,.int .i64 x6,.string x7,.int .i64 x8,.slice hA hn hc]] (by unfold execOp;go_simp) ?_
   refine (at_any x1 x2 x3 x4 x5 x6 x7 x8 (.slice hA hn hc) W).mono ?_
   rintro e W' ⟨rfl,hb⟩
   exact⟨_,rfl,_,rfl,rfl,⟨hGW.1.trans (hb.mono hGW.1.size),hGW.2.below hb hGW.2.lt⟩,hb⟩
  | 22=>cases ho;refine onv 14 19 ?_;obtain⟨d0,d1⟩:=hGW.2.cs 0 2;exact vla
  | 23=>
   cases ho;refine onv 14 19 ?_;have:=tx 21 26;have:=tx 22 27
   exact vla (h:=by unfold execOp;go_simp;all_goals (by_cases q1:x1=(k:Int)+1<;>by_cases q2:x2=E<;>first|omega|simp_all))
  | 24=>cases ho;refine onv 3 8 ?_;have:=tx 14 19;have:=tx 23 28;exact vla
  | 25=>cases ho;have:=tx 3 8;have:=tx 24 29;exact vna
  | 26=>cases ho;have:=tx 25 30;exact vna
  | i+27=>exact absurd ho (by simp)):p:=h
theorem Y7 {p:Prop} (h:p:=by
 go_enter func48,ntmps48
 conv=>arg 2;arg 2;arg 2;arg 2;change part [1,1,1] (codeOf rdoFF)
 go_wp2_with fail
 rw [<-HW.out]
 refine HHOLD.out.mono ?_
 rintro x w2 ⟨rfl,hb12⟩
 have h5:=H5.out.below hb12 H5.out.lt
 have hg:=HG.out.below hb12 HG.out.lt
 obtain⟨w3,hw3⟩:∃ w3,w3=w2.alloc (.cells #[.int .i64 hE,.int .i64 hS] 93):=⟨_,rfl⟩
 have hb23:Below w2 w2 w3:=by rw [hw3];exact (Below.refl _ _).alloc (Nat.le_refl _) _
 have hgr:Blk w3 w2 93 #[.int .i64 hE,.int .i64 hS]:=by rw [hw3];exact Blk.new _ _ _
 have hb13:Below w1 w1 w3:=hb12.trans (hb23.mono hb12.size)
 have h5:=H5.out.below hb13 H5.out.lt
 have hg:=HG.out.below hb13 HG.out.lt
 obtain⟨m1,m2⟩:=h5.cs 1 2
 have n2:=hg.c1 2
 obtain⟨r0,r1⟩:=hgr.cs 0 2
 have HW3:=J hw3
 have K8:=J (H8.out.below hb13 H8.out.lt)
 have KB1:=J (HB1.out.trans (hb13.mono (by have:=HZ1.out;omega)))
 have KT:=J hb13
 clear h5 hg hw3 hb23 hgr hb12 hb13
 dsimp only
 go_wp2_with fail
 rw [<-HW3.out]
 go_quiet (fail)
 have h82:=K8.out.drewN nq
 obtain⟨W,HWW,z0,z1,z2,HKK,HLL,y0,y1,y2,f0⟩:=de h82 120 0 0
 clear h82
 go_wp2
 rw [<-HWW.out]
 refine dr 120 0 0 ?_
 exact⟨⟨_,_,_,rfl⟩,by rw [HRF.out];exact RActed.idle H0.out ((below_drewN KB1.out nq).trans (HLL.out.mono (by omega))) HB.out⟩):p:=h
theorem Y8 {p:Prop} (h:p:=by
 have hall:∀ i,i<ops.size->l.getD i false=true:=fun i hi=>by
  cases hb:l.getD i false with
  | true=>rfl
  | false=>
   have:i∈(List.range ops.size).filter fun i=>!l.getD i false:=List.mem_filter.2 ⟨List.mem_range.2 hi,by rw [hb];rfl⟩
   rw [List.eq_nil_of_length_eq_zero (Nat.le_zero.1 hf)] at this
   cases this
 refine⟨?_,hend U W hGW fun i hi=>hV i hi (hall i hi)⟩
 apply List.eq_nil_iff_forall_not_mem.2
 intro i hi
 obtain⟨o,ho,hln,_⟩:=ready_spec hi
 have hio:i<ops.size:=by
  rcases Nat.lt_or_ge i ops.size with h|h
  ·exact h
  ·rw [Array.getElem?_eq_none h] at ho;cases ho
 have:=hall i hio
 have hil:i<l.size:=by omega
 simp [Array.getD,hil] at this hln
 rw [this] at hln
 cases hln):p:=h
theorem Y9 {p:Prop} (h:p:=by
 go_wp2_with fail
 rw [<-HW.out]
 go_quiet (fail)
 go_wp2_with fail
 refine (failed_any _ _).mono ?_
 rintro x w2 ⟨rfl,hb2⟩
 have hb2':Below w1 w1 w2:=⟨hb2.os,hb2.tape,hb2.output,hb2.size,hb2.block⟩
 have h82:=H8.out.below hb2' H8.out.lt
 obtain⟨W,hW,z0,z1,z2,hk,hl⟩:=done_end h82 rfl (.int .i64 120) (.int .i64 0) (.int .i64 0)
 obtain⟨y0,y1,y2⟩:=h82.cs 0 3
 have f0:=h82.frozen
 obtain⟨HWW,HKK,HLL,HB2⟩:=J4 hW hk hl hb2'
 clear hb2 hb2'
 clear h82 hk hl hW
 go_wp2
 rw [<-HWW.out]
 refine dr 120 0 0 ?_
 exact⟨⟨_,_,_,rfl⟩,Acted.idle H0.out (HB1.out.trans ((HB2.out.mono (by have:=HZ1.out;omega)).trans (HLL.out.mono (by omega)))) HB.out⟩):p:=h
theorem Y10 {p:Prop} (h:p:=by
 clear h0 h hgb hos hpn hlive hlast hw1 hz1 hb1 h5 h8 hg1 ho1 hB h52 h82 hg2 hb2 hw2 hhold haf
 go_enter func46,ntmps46
 conv=>arg 2;arg 2;arg 2;arg 2;change part [1,1,1] (codeOf markLF)
 go_wp2_with fail
 rw [<-HW.out]
 try go_wp2_with fail
 rw [<-HW2.out]
 go_quiet (fail)
 go_wp2_with fail
 refine (failed_any _ _).mono ?_
 rintro x w3 ⟨rfl,hb2⟩
 have hb2':Below w2 w2 w3:=⟨hb2.os,hb2.tape,hb2.output,hb2.size,hb2.block⟩
 have h82:=G8.out.below hb2' G8.out.lt
 obtain⟨W,hW,z0,z1,z2,hk,hl⟩:=done_end h82 rfl (.int .i64 120) (.int .i64 0) (.int .i64 0)
 obtain⟨y0,y1,y2⟩:=h82.cs 0 3
 have f0:=h82.frozen
 obtain⟨HWW,HKK,HLL,HB2⟩:=J4 hW hk hl hb2'
 clear hb2 hb2'
 clear h82 hk hl hW
 go_wp2
 rw [<-HWW.out]
 refine dr 120 0 0 ?_
 exact⟨⟨_,_,_,rfl⟩,Acted.idle H0.out (GB1.out.trans ((HB2.out.mono (by have:=GZ1.out;omega)).trans (HLL.out.mono (by omega)))) HB.out⟩):p:=h
theorem Y11 {p:Prop} (h:p:=by
 have hlt:((List.range ops.size).filter fun j=>!(l.setIfInBounds i true).getD j false).length<((List.range ops.size).filter fun j=>!l.getD j false).length:=by
  refine filter_lt (x:=i) (by simp [hio]) (by simp [hlf]) (by simp [Array.getD,hil]) fun j hj hh=>?_
  have hjl:j<l.size:=by have:=List.mem_range.1 hj;omega
  by_cases hij:i=j
  ·subst hij;simpa using hlf
  ·simp [Array.getD,hjl,hij] at hh ⊢
   exact hh
 omega):p:=h
theorem Y12 {p:Prop} (h:p:=by
 have xk':(o.kind != 3)=false:=by rw [hk3];rfl
 have HK3:=J hk3
 clear hk3 hNn
 by_cases hE:E'<o.epoch
 ·have x1:(o.epoch==E')=false:=beq_eq_false_iff_ne.2 (by omega)
  have x2:decide (o.epoch<E')=false:=decide_eq_false (by omega)
  have x3:decide (E'<o.epoch)=true:=decide_eq_true hE
  have hr2:r=rowFrom o.n o.epoch o.site (os.drop (k+1)):=by rw [HR.out];simp [rowFrom,stepB,hob,HN.out,HK3.out,hE]
  have HR2:=J hr2
  clear hr2
  go_wp2_with fail
  go_quiet (fail)
  go_wp2_with fail
  go_roundw
  case rel=>exact⟨k+1,o.n,o.epoch,o.site,by omega,by go_num,⟨by have h1:=HN.out;have h2:=HH.out.1;omega,fun h=>absurd h (by omega),fun _=>⟨o,hck'.out,rfl,rfl,hon.2.2.1⟩⟩,hon.2.1,HR2.out,below_drewN HW1.out _⟩
  case measure=>simp [intOf];omega
 ·have hr2:r=false:=by rw [HR.out];simp [rowFrom,stepB,HK3.out,hE]
  subst hr2
  by_cases hE2:o.epoch=E'
  ·have x1:(o.epoch==E')=true:=beq_iff_eq.2 hE2
   clear hE2 hE
   go_wp2_with fail
   go_quiet (fail)
   go_wp2_with fail
   go_ret
   exact⟨rfl,below_drewN HF.out _⟩
  ·have x1:(o.epoch==E')=false:=beq_eq_false_iff_ne.2 hE2
   have x2:decide (o.epoch<E')=true:=decide_eq_true (by omega)
   clear hE2 hE
   go_wp2_with fail
   go_quiet (fail)
   go_wp2_with fail
   go_ret
   exact⟨rfl,below_drewN HF.out _⟩):p:=h
theorem Y13 {p:Prop} (h:p:=by
 refine gg hfr fun t=>?_
 go_wp2_with fail
 exact HQ.out _ ff):p:=h
theorem Y14 {p:Prop} (h:p:=by
 obtain⟨H8,HB1,HZ1,H0⟩:=J4 h8 hb1 hz1 h
 have H1:=J (h.below hb1)
 have HB:=J hB
 have h80:=h.rows.len
 obtain⟨pA,pn,pc,lA,ln,lc,st,hgb,hos⟩:=(h.below hb1).open_
 have hpn:=hos.len
 have g0:=hgb.c1 0
 obtain⟨g4,g5⟩:=hgb.cs 4 2
 obtain⟨k1,k2,k3,k4,k5,k6,k7,k8,k9,k10,k11⟩:=h5.cs 1 11
 obtain⟨HL,HS,HOP⟩:=J3 hl hs hop
 have d9:decide ((64:Int)<=(pn:Int))=false:=decide_eq_false (by omega)
 clear h hB hz1 hb1 h5 h8 hgb hos hpn h80 hs hop hl
 refine gg hfr fun t=>?_
 go_wp2_with fail
 go_quiet (fail)
 go_wp2_with fail
 have hBw:=HB.out
 have hzz:=HZ1.out
 refine (rapp_any (S:=S) (o:=o) (A:=hA) (n:=hn) (c:=hc) epoch site (H1.out.below (below_drewN (Below.refl _ _) _)) (HS.out.below (below_drewN (Below.refl _ _) _)) (by have:=HL.out;omega) (HOP.out HL.out) (by show B<=w1;omega)).mono ?_
 rintro x w2 ⟨⟨e,n,ep,rfl⟩,ha⟩
 have h82:Blk w2 (w.heap.size+1) 50 #[.int .i64 0,.int .i64 0,.int .i64 0]:=(ha.2.1.2 (w.heap.size+1) (fun hy=>by have:=(H0.out.1 _ hy).2;omega) (by show w.heap.size+1<w1;omega)).trans H8.out
 have HA:=J ha
 dsimp only
 obtain⟨W,HWW,z0,z1,z2,HKK,HLL,y0,y1,y2,f0⟩:=de h82 e n ep
 clear ha hBw hzz
 clear h82
 go_wp2
 rw [<-HWW.out]
 refine dr e n ep ?_
 exact⟨⟨_,_,_,rfl⟩,RActed.boxed H0.out.1 HB.out (below_drewN HB1.out _) HA.out ⟨by omega,by have:=HZ1.out;show w.heap.size+1<w1;omega⟩ HKK.out HLL.out⟩):p:=h
theorem Y15 {p:Prop} (h:p:=by
 obtain⟨H8,HB1,HZ1,H0,HB,HQ⟩:=J6 h8 hb1 hz1 h hB hQ
 have g0:=hg.cell 0
 rw [hg0] at g0
 have k7:=(h5.alloc (.cells (oC x.n x.epoch x.kind x.site x.client x.seq x.name x.size xA xn xc) 45)).cell 7
 have k8:=(h5.alloc (.cells (oC x.n x.epoch x.kind x.site x.client x.seq x.name x.size xA xn xc) 45)).cell 8
 simp at k7 k8
 obtain⟨c0,c1,c2,c3,c4,c5,c6,c7,c8⟩:=hop
 simp only [OpC.at_] at c0 c1 c2 c3 c4 c5 c6 c7 c8
 have z2:(0:Int)<=(j:Nat):=by omega
 have z3:((j:Nat):Int)<((pn:Nat):Int):=by omega
 clear h hB hz1 hb1 h5 h8 hg hg0 hj hQ
 refine gg hfr fun t=>?_
 go_wp2_with fail
 exact HQ.out _ _ ff ((Below.refl _ _).alloc (Nat.le_refl _) _)):p:=h
theorem Y16 {p:Prop} (h:p:=by
 go_enter func49,ntmps49
 conv=>arg 2;arg 2;arg 2;arg 2;change part [1,1,1] (codeOf rshipFF)
 go_wp2_with fail
 rw [<-HW.out]
 refine HHOLD.out.mono ?_
 rintro x w2 ⟨rfl,hb12⟩
 obtain⟨w3,hw3⟩:∃ w3,w3=w2.alloc (.cells #[.int .i64 hE,.int .i64 hS'] 93):=⟨_,rfl⟩
 have hb23:Below w2 w2 w3:=by rw [hw3];exact (Below.refl _ _).alloc (Nat.le_refl _) _
 have hgr:Blk w3 w2 93 #[.int .i64 hE,.int .i64 hS']:=by rw [hw3];exact Blk.new _ _ _
 have hb13:Below w1 w1 w3:=hb12.trans (hb23.mono hb12.size)
 have h5:=H5.out.below hb13 H5.out.lt
 have hg:=HG.out.below hb13 HG.out.lt
 obtain⟨m1,m2⟩:=h5.cs 1 2
 have n2:=hg.c1 2
 obtain⟨r0,r1⟩:=hgr.cs 0 2
 have HW3:=J hw3
 have K8:=J (H8.out.below hb13 H8.out.lt)
 have KB1:=J (HB1.out.trans (hb13.mono (by have:=HZ1.out;omega)))
 have KT:=J hb13
 clear h5 hg hw3 hb23 hgr hb12 hb13
 dsimp only
 go_wp2_with fail
 rw [<-HW3.out]
 go_quiet (fail)
 have h82:=K8.out.drewN nq
 obtain⟨W,HWW,z0,z1,z2,HKK,HLL,y0,y1,y2,f0⟩:=de h82 120 0 0
 clear h82
 go_wp2
 rw [<-HWW.out]
 refine dr 120 0 0 ?_
 exact⟨⟨_,_,_,rfl⟩,by rw [HRF.out];exact RActed.idle (H0.out.more (Nat.le_add_right k 80)) ((below_drewN KB1.out nq).trans (HLL.out.mono (by omega))) HB.out⟩):p:=h
theorem Y17 {p:Prop} (h:p:=by
 cases hk;cases ho;obtain⟨u0,u1,rfl⟩:=ln2 hvl;have e24:=fev qa qb 4 24;have t24:=act_tmp e24;have e27:=cev qa qb 7 27;have t27:=act_tmp e27;obtain⟨A',c',rfl,h1,h2⟩:=hS;have hL:=HL.out.below h2
 obtain⟨A2,c2,w',hrun,r1,r2,r3⟩:=run_append_row 28 hL.row h1 (fun b hb hx e=>by have h3:=(HL.out.row.lt b e.symm).2;have h4:w0.heap.size+1<=b:=hx;omega) (by have:=HN.out;omega) (by have:=HB.out;have:=h2.size;omega)
 refine wp_value' (.slice A2 (pn+1) c2) w' (by unfold execOp;simp [resolve,invoke,builtin,e24,e27,hrun,Result.andThen]) ⟨_,rfl,A2,c2,rfl,?_,?_,?_⟩
 ·refine r1.mono fun b hb hx=>?_
  have hs2:=h2.size
  rcases hx with hx|hx|hx
  ·exact .inl hx
  ·exact .inr ⟨by have:w0.heap.size+1<=b:=hx;omega,hb⟩
  ·rcases r3 with r3|r3
   ·exact .inl (HX.out b (by rw [<-r3];exact hx))
   ·rw [hx] at r3
    injection r3 with r3
    exact .inr ⟨by omega,hb⟩
 ·exact (Kept.of _ h2).grown r2 fun k hk=>.inl fun h=>h (HX.out k hk)
 ·exact (h2.mono HB.out).trans (below_grown r2 (fun b hb=>(HL.out.row.lt b hb).1) (by have:=HB.out;have:=h2.size;omega))):p:=h
theorem Y18 {p:Prop} (h:p:=by
 refine gg hfr fun t=>?_
 go_wp2_with fail
 go_ret
 exact⟨rfl,HW.out⟩):p:=h
theorem Y19 {p:Prop} (h:p:=by
 rintro x w3 ⟨⟨e,n,ep,rfl⟩,ha⟩
 have h83:Blk w3 (w.heap.size+1) 50 #[.int .i64 0,.int .i64 0,.int .i64 0]:=(ha.2.1.2 (w.heap.size+1) (fun hy=>by have:=(H0.out.1 _ hy).2;omega) (by have:=KZ1.out;omega)).trans K8.out
 have HA:=J ha
 dsimp only
 obtain⟨W,HWW,z0,z1,z2,HKK,HLL,y0,y1,y2,f0⟩:=de h83 e n ep
 clear ha
 clear h83
 go_wp2
 rw [<-HWW.out]
 refine dr e n ep ?_
 exact⟨⟨_,_,_,rfl⟩,by rw [HRE.out];exact Acted.boxed H0.out.1 HB.out KB1.out (HA.out.more (Nat.le_add_right k 80)) ⟨by omega,by have:=KZ1.out;omega⟩ HKK.out HLL.out⟩):p:=h
theorem Y20 {p:Prop} (h:p:=by
 have hb13:Below w1 w1 w3:=hb12.trans (hb23.mono hb12.size)
 have h5:=H5.out.below hb13 H5.out.lt
 have hg:=HG.out.below hb13 HG.out.lt
 obtain⟨m1,m2⟩:=h5.cs 1 2
 have n2:=hg.c1 2
 obtain⟨r0,r1⟩:=hgr.cs 0 2
 have HW3:=J hw3
 have K8:=J (H8.out.below hb13 H8.out.lt)
 have KB1:=J (HB1.out.trans (hb13.mono (by have:=HZ1.out;omega)))
 have KT:=J hb13
 clear h5 hg hw3 hb23 hgr hb12 hb13
 dsimp only
 go_wp2_with fail
 rw [<-HW3.out]
 go_quiet (fail)
 go_wp2_with fail
 exact HT.out _ _ _ KT.out HRF.out ff):p:=h
theorem Y21 {p:Prop} (h:p:=by
 exact vl ⟨rfl,rfl⟩ (h:=by unfold execOp;go_simp;all_goals first|omega|exact IntWalk.i64_in _ (by omega))):p:=h
theorem Y22 {p:Prop} (h:p:=by
 obtain⟨k0,k1,k2,k3,k4,k5,k6,k7,k8⟩:=hop
 have d:=(HBK.out.alloc (.cells #[.int .i64 o.n,o.epoch,o.kind,o.site,o.client,o.seq,.string o.name,o.size,.slice o.hA o.hn o.hc] 45))
 have d1:=d.cell k
 have f1:=d.frozen k
 rw [Array.getElem?_eq_getElem (by rw [HCS.out];exact hk1)] at d1
 obtain⟨D,HO⟩:=J2 d ho
 have hlt:=HBK.out.lt
 clear d ho
 go_wp2_with fail
 go_roundw
 case rel=>
  refine⟨k+1,cu.setIfInBounds k (.int .i64 o.epoch),by omega,by go_num,by rw [Array.size_setIfInBounds];exact HCS.out,(HBK.out.set_ _ _).alloc _,?_,(HB.out.setCell (p:=⟨w.heap.size,_,none⟩) (Nat.le_refl _) _).alloc (by have:=HB.out.size;simp;omega) _⟩
  intro j hj
  by_cases hjk:j=k
  ·subst hjk
   have h2:j<cu.size:=by rw [HCS.out];exact hk1
   simp [h2,intV,HO.out]
  ·rw [Array.getElem?_setIfInBounds_ne (by omega)]
   exact HCU.out j (by omega)
 case measure=>simp [intOf];omega):p:=h
theorem Y23 {p:Prop} (h:p:=by
 exact wp_value' (.pointer (some ⟨lb,0,none⟩)) W (by unfold execOp;go_simp) ⟨_,rfl,rfl,hGW,hrefl W⟩):p:=h
theorem Y24 {p:Prop} (h:p:=by
 refine hK _ _ ?_
 conv=>arg 2;whnf
 refine wp_ret (hQ _ _ ?_)
 refine bodyPost_ret (meet_results (b6:=b6) (b7:=b7) (by simp [putU,dstAt,Act.put]) (by simp [putU,dstAt,Act.put]) (by simp [putU,dstAt,Act.put];exact h4) hGW.1 hGW.2.1) (by simp [putU,dstAt,Act.put]) ?_
 exact hR _ hGW.2.2.1 hGW.2.2.2):p:=h
theorem Y25 {p:Prop} (h:p:=by
 clear HE HSB HD
 go_enter func44,ntmps44
 conv=>arg 2;arg 2;arg 2;arg 2;arg 2;change part [1,1,1,1] (codeOf shipLF)
 go_wp2_with fail
 rw [<-HW.out]
 go_quiet (fail)
 go_wp2_with fail
 refine (failed_any _ _).mono ?_
 rintro x w2 ⟨rfl,hb2⟩
 have hb2':Below w1 w1 w2:=⟨hb2.os,hb2.tape,hb2.output,hb2.size,hb2.block⟩
 have h82:=H8.out.below hb2' H8.out.lt
 obtain⟨W,hW,z0,z1,z2,hk,hl⟩:=done_end h82 rfl (.int .i64 120) (.int .i64 0) (.int .i64 0)
 obtain⟨y0,y1,y2⟩:=h82.cs 0 3
 have f0:=h82.frozen
 obtain⟨HWW,HKK,HLL,HB2⟩:=J4 hW hk hl hb2'
 clear hb2 hb2'
 clear h82 hk hl hW
 go_wp2
 rw [<-HWW.out]
 refine dr 120 0 0 ?_
 exact⟨⟨_,_,_,rfl⟩,Acted.idle (H0.out.more (Nat.le_add_right k 80)) (HB1.out.trans ((HB2.out.mono (by have:=HZ1.out;omega)).trans (HLL.out.mono (by omega)))) HB.out⟩):p:=h
theorem Y26 {p:Prop} (h:p:=by
 obtain⟨A',c',rfl,hi⟩:=hv
 exact⟨A',c',rfl,hi.kept ⟨hx.1.1,fun b h1 h2=>hx.1.2 b ⟨by have:w0.heap.size<=b:=h1;have:=HBB.out;omega,by have:w0.heap.size<=b:=h1;have:=HBB.out;omega⟩ h2⟩⟩):p:=h
theorem Y27 {p:Prop} (h:p:=by
 go_wp2
 go_meet
 have hne:w4.heap.size≠(w.heap.size+1+1):=by have:=K6'.out.lt;omega
 have hne7:(w.heap.size+1+1+1)≠(w.heap.size+1+1):=by omega
 have hne4:w.heap.size≠(w.heap.size+1+1):=by omega
 have hsv:=putCells_save (w.heap.size+1+1) awAnswer.toList (w4.alloc (.cells #[.slice none 0 0] 28)) 0
 have h4:=hsv.blk (K4'.out.alloc (.cells #[.slice none 0 0] 28)) hne4
 have h6:=putCells_blk (l:=awAnswer.toList) P6.out rfl
 have h7:=hsv.blk (K7'.out.alloc (.cells #[.slice none 0 0] 28)) hne7
 obtain⟨m1,m2,hled⟩:=L'.out.below hbs L'.out.lt
 have hb:=putCells_below (B:=w.heap.size) (rb:=(w.heap.size+1+1)) (by omega) awAnswer.toList w _ 0 (HB2.out.trans (hbs.mono HB2.out.size))
 exact⟨⟨h4,h6,h7,⟨m1,m2,hsv.blk hled (by omega)⟩,hb⟩,hsv.blk (Blk.new w4 _ _) hne⟩):p:=h
theorem Y28 {p:Prop} (h:p:=by
 refine gg hfr fun t=>?_
 go_wp2_with fail
 go_quiet (fail)
 go_wp2_with fail
 exact HQ.out _ _ ff (below_drewN (Below.refl _ _) _)):p:=h
theorem Y29 {p:Prop} (h:p:=by
 obtain⟨H8,HB1,HZ1,H0⟩:=J4 h8 hb1 hz1 h
 have H1:=J (h.below hb1)
 have HB:=J hB
 have h80:=h.rows.len
 obtain⟨pA,pn,pc,lA,ln,lc,st,hgb,hos⟩:=(h.below hb1).open_
 have hpn:=hos.len
 have g0:=hgb.c1 0
 obtain⟨g4,g5⟩:=hgb.cs 4 2
 obtain⟨k1,k2,k3,k4,k5,k6,k7,k8,k9,k10,k11⟩:=h5.cs 1 11
 have HL:=J hl
 have d9:decide ((64:Int)<=(pn:Int))=true:=decide_eq_true (by omega)
 clear h hB hz1 hb1 h5 h8 hgb hos hpn h80 hl
 refine gg hfr fun t=>?_
 go_wp2_with fail
 go_quiet (fail)
 have h82:=(H8.out.drewN nq)
 obtain⟨W,HWW,z0,z1,z2,HKK,HLL,y0,y1,y2,f0⟩:=de h82 125 0 0
 clear h82
 go_wp2
 rw [<-HWW.out]
 refine dr 125 0 0 ?_
 exact⟨⟨_,_,_,rfl⟩,RActed.idle H0.out ((below_drewN HB1.out nq).trans (HLL.out.mono (by omega))) HB.out⟩):p:=h
theorem Y30 {p:Prop} (h:p:=by
 subst hr2
 have x1:(o.epoch==E')=false:=beq_eq_false_iff_ne.2 hE
 by_cases hE2:o.epoch<E'
 ·have x2:decide (o.epoch<E')=true:=decide_eq_true hE2
  clear hE2 hE
  go_wp2_with fail
  go_quiet (fail)
  go_wp2_with fail
  go_ret
  exact⟨rfl,below_drewN HF.out _⟩
 ·have x2:decide (o.epoch<E')=false:=decide_eq_false hE2
  have x3:decide (E'<o.epoch)=true:=decide_eq_true (by omega)
  clear hE2 hE
  go_wp2_with fail
  go_quiet (fail)
  go_wp2_with fail
  go_ret
  exact⟨rfl,below_drewN HF.out _⟩):p:=h
theorem Y31 {p:Prop} (h:p:=by
 rw [<-hl];clear hl;have hf2:∃ A' c',Blk (W.setCells b7 0 l) b7 47 #[.int .i64 3,.int .i64 epoch,.int .i64 site,.int .i64 0,.int .i64 0,.int .i64 0,.int .i64 0,.int .i64 0,.int .i64 0,.string ⟨#[]⟩,.int .i64 0,.slice none 0 0,.int .i64 aN,.int .i64 aE,.slice A' pn c',.int .i64 0]/\OpsIs (W.setCells b7 0 l) (From w0.heap.size) A' pn c' ops:=⟨A',c',hn,hi'⟩
 have hsc:∃ cs,Blk (W.setCells b7 0 l) b7 47 cs/\cs.size=16:=⟨_,hn,by rw [<-hla];simp [hll]⟩
 have hg4:w0.heap.size<=(W.setCells b7 0 l).heap.size:=by rw [hsz];exact g4
 exact⟨_,rfl,hf2,⟨⟨hg1,hg2,hg3,hg4⟩,⟨cs,hg5,g6⟩,hsc⟩,hkb,hg6,fun _=>hf2⟩):p:=h
theorem Y32 {p:Prop} (h:p:=by
 have hk:=hS
 clear hfr hch hS
 simp [putU,dstAt,Act.put]
 exact HQ.out _ _ ff hk):p:=h
theorem Y33 {p:Prop} (h:p:=by
 intro U vs W hS hvl hfr hch
 obtain⟨x0,rfl⟩:=ln1 hvl
 have r1:W=_:=hS
 subst r1
 clear hfr hch hS
 simp [putU,dstAt,Act.put]
 exact HQ.out _ ff):p:=h
theorem Y34 {p:Prop} (h:p:=by
 clear hx
 subst hA
 subst hA'
 have b1:(0:Int)<=(k:Int):=by omega
 have b2:(k:Int)<(n:Int):=by omega
 go_wp2_with fail
 go_quiet (fail)
 go_wp2
 go_roundw
 case rel=>exact⟨k+1,by omega,by go_num,below_drewN HB.out _⟩
 case measure=>simp [intOf];omega):p:=h
theorem Y35 {p:Prop} (h:p:=by
 rintro x w3 ⟨⟨e,n,ep,rfl⟩,ha⟩
 have h83:Blk w3 (w.heap.size+1) 50 #[.int .i64 0,.int .i64 0,.int .i64 0]:=(ha.2.1.2 (w.heap.size+1) (fun hy=>by have:=(H0.out.1 _ hy).2;omega) (by have:=KZ1.out;omega)).trans K8.out
 have HA:=J ha
 dsimp only
 obtain⟨W,HWW,z0,z1,z2,HKK,HLL,y0,y1,y2,f0⟩:=de h83 e n ep
 clear ha
 clear h83
 go_wp2
 rw [<-HWW.out]
 refine dr e n ep ?_
 exact⟨⟨_,_,_,rfl⟩,by rw [HRE.out];exact RActed.boxed H0.out.1 HB.out KB1.out (HA.out.more (Nat.le_add_right k 80)) ⟨by omega,by have:=KZ1.out;omega⟩ HKK.out HLL.out⟩):p:=h
theorem Y36 {p:Prop} (h:p:=by
 rintro e W' ⟨A',c',rfl,hi,hb⟩
 have hs:=hGW.1.2.2.2;obtain⟨⟨g1,g2,g3,g4⟩,⟨cs,g5,g6⟩,⟨cs',g7,g8⟩⟩:=hGW
 exact⟨_,rfl,_,rfl,⟨A',c',rfl,hi.mono fun b _ h=>(show w0.heap.size<=b from Nat.le_trans hs h)⟩,⟨⟨g1.below hb g1.lt,g2.below hb,g3.trans (hb.mono (by have:=HBB.out;omega)),Nat.le_trans hs hb.size⟩,⟨cs,g5.below hb g5.lt,g6⟩,⟨cs',g7.below hb g7.lt,g8⟩⟩,Kept.of _ hb,fun h=>h.below hb h.lt,fun ⟨A',c',h1,h2⟩=>⟨A',c',h1.below hb h1.lt,h2.below hb⟩⟩):p:=h
theorem Y37 {p:Prop} (h:p:=by
 have HQ:=J hQ
 clear hQ
 refine gg hfr fun t=>?_
 go_wp2_with fail
 exact HQ.out _ _ (bodyPost_ret (results_tmp rfl _ _ _) rfl ⟨rfl,hw⟩)):p:=h
theorem Y38 {p:Prop} (h:p:=by
 obtain⟨HG,HX⟩:=J2 hGW.1 hx
 clear hV hGW hx
 simp [putU,dstAt,Act.put,HX.out]
 go_wp2
 go_ret
 exact⟨rfl,HG.out⟩):p:=h
theorem Y39 {p:Prop} (h:p:=by
 have s1:=hb1.size
 have s2:=h.2.1.1
 have s3:=hk.1
 refine⟨(h.1.kept (hk.mono fun q _ hq e=>?_)).mono (fun q hq hx=>?_) (New.lt hY hB (by omega)),?_,((hb1.mono hB).trans h.2.2).trans (hl.mono (by omega))⟩
 ·subst e
  rcases hq with hq|hq
  ·have:=(hY _ hq).2;omega
  ·omega
 ·rcases hx with hx|hx
  ·exact .inl hx
  ·exact .inr ⟨by omega,hq⟩
 ·exact⟨by omega,fun q h1 h2=>((hk.2 q (by omega) (by omega)).trans (h.2.1.2 q h1 (by omega))).trans (hb1.block q h2)⟩):p:=h
theorem Y40 {p:Prop} (h:p:=by
 cases ho;refine on_ (wanted_none rfl) ?_;have:=tx 3 135;have:=tx 5 137
 refine wp_enter' 65 #[.slice A n c,.agg #[sN,sE]] (by unfold execOp;go_simp) ?_
 refine (rhas_any (N:=sN) (E:=sE) os W hGW.1.1.ops HZ.out).mono ?_
 rintro e W' ⟨rfl,hb⟩
 rw [<-HR.out];exact⟨_,rfl,_,rfl,rfl,⟨⟨hGW.1.1.below hb,hGW.1.2.1.below hb hGW.1.2.1.lt,hGW.1.2.2.1.below hb hGW.1.2.2.1.lt,hGW.1.2.2.2.below hb⟩,hGW.2.trans (hb.mono hGW.2.size)⟩,trivial⟩):p:=h
theorem Y41 {p:Prop} (h:p:=by
 obtain⟨s0,s1⟩:=hs.cs 0 2
 have HG:=J hG
 clear hs hG
 refine gg hfr fun t=>?_
 obtain⟨W,HWW,z0,z1,z2,HKK,HLL,y0,y1,y2,f0⟩:=de h8 0 N E
 clear h8
 go_wp2
 rw [<-HWW.out]
 refine dr 0 N E ?_
 exact HG.out _ HKK.out HLL.out):p:=h
theorem Y42 {p:Prop} (h:p:=by
 clear hQ hY hB hl hk1 hl1 hz h5 h8 hg hg0
 refine gg hfr fun t=>?_
 go_wp2_with fail
 go_quiet (fail)
 have h82:=H8.out.drewN nq
 obtain⟨Wz,HWW,z0,z1,z2,HKK,HLL,y0,y1,y2,f0⟩:=de h82 121 0 0
 clear h82
 go_wp2
 rw [<-HWW.out]
 refine HQ.out _ _ (dr 121 0 0 ?_)
 exact⟨⟨_,_,_,rfl⟩,(ract_end HY.out HB.out (HL.out.below (below_drewN (Below.refl _ _) nq)) (HK1.out.drewN nq) (below_drewN HL1.out nq) (by omega) HKK.out HLL.out).more (Nat.le_add_right k 80)⟩):p:=h
theorem Y43 {p:Prop} (h:p:=by
 go_wp2_with fail
 go_ret
 exact⟨rfl,HW1.out⟩):p:=h
theorem Y44 {p:Prop} (h:p:=by
 obtain⟨HQ,H8,HB1,HZ1,H0⟩:=J5 hQ h8 hb1 hz1 h
 have H1:=J (h.below hb1)
 have HB:=J hB
 have h80:=h.rows.len
 obtain⟨pA,pn,pc,lA,ln,lc,st,hgb,hos⟩:=(h.below hb1).open_
 have hpn:=hos.len
 have g0:=hgb.c1 0
 obtain⟨g4,g5⟩:=hgb.cs 4 2
 obtain⟨k1,k2,k3,k4,k5,k6,k7,k8,k9,k10,k11⟩:=h5.cs 1 11
 clear h hB hz1 hb1 h5 h8 hgb hos hpn h80 hQ
 refine gg hfr fun t=>?_
 go_wp2_with fail
 exact HQ.out _ _ ff (Below.refl _ _)):p:=h
theorem Y45 {p:Prop} (h:p:=by
 rintro x w1 ⟨rfl,rfl⟩
 go_wp2_with fail
 go_loopw [9] (fun i wr=>i=.int .i64 0/\wr=w1) (fun _ _=>0)
 case atStart=>exact⟨rfl,rfl⟩
 case round=>
  obtain⟨rfl,rfl⟩:=hrel
  go_wp2
  go_ret
  exact⟨rfl,rfl⟩):p:=h
theorem Y46 {p:Prop} (h:p:=by
 cases ho
 have hk:=hS.kept (hlim 2 10 rfl rfl)
 have hb5:=(hk.2 b5 HN5.out HO.out.lt).trans HO.out
 have d0:=Blk.cell hb5 0
 have d1:=Blk.cell hb5 1
 have d2:=Blk.cell hb5 2
 have d3:=Blk.cell hb5 3
 have d4:=Blk.cell hb5 4
 have d5:=Blk.cell hb5 5
 have d6:=Blk.cell hb5 6
 have d7:=Blk.cell hb5 7
 have d8:=Blk.cell hb5 8
 simp at d0 d1 d2 d3 d4 d5 d6 d7 d8
 exact vl ⟨rfl,rfl⟩):p:=h
theorem Y47 {p:Prop} (h:p:=by
 go_wp2_with (at_mapUpdate;refine wpList_named rfl _ _ _ rfl HN.out (by simp) 69 kr rfl rfl rfl ?_)
 intro w' h1 h3
 have H1:=J h1
 have H2:=J (HB.out.trans (⟨h3.os,h3.tape,h3.output,h3.size,fun b hb=>h3.block b (by omega) (fun e=>by injection e;omega)⟩:Below g wr w'))
 clear h1 h3
 go_wp2_with fail
 go_roundw
 case rel=>exact⟨⟨1,by omega,rfl,H1.out⟩,H2.out⟩
 case measure=>simp [intOf]):p:=h
theorem Y48 {p:Prop} (h:p:=by
 go_wp2_with (at_mapUpdate;refine wpList_named rfl _ _ _ rfl HN.out (by simp) 97 kr rfl rfl rfl ?_)
 intro w' h1 h3
 have H1:=J h1
 have H2:=J (HB.out.trans (⟨h3.os,h3.tape,h3.output,h3.size,fun b hb=>h3.block b (by omega) (fun e=>by injection e;omega)⟩:Below g wr w'))
 clear h1 h3
 go_wp2_with fail
 go_roundw
 case rel=>exact⟨⟨3,by omega,rfl,H1.out⟩,H2.out⟩
 case measure=>simp [intOf]):p:=h
theorem Y49 {p:Prop} (h:p:=by
 have:=main ops.size (Array.replicate ops.size false) U {w with drawn:=w.drawn+1} (by simp) hG (fun i hi h=>by simp [Array.getD,hi] at h) (Nat.le_trans (List.length_filter_le _ _) (by simp))
 rw [hU] at this
 exact this):p:=h
theorem Y50 {p:Prop} (h:p:=by
 have HGS:=J hg
 clear hg
 go_wp2
 all_goals first
  | (go_ret;exact⟨ret_bool' (decide_eq_true (by have:=HP.out;have:=HGS.out;omega)).symm,HB.out.alloc HB.out.size _⟩)
  | (go_roundw
     case rel=>exact⟨k+1,by omega,by go_num,by rw [<-HG.out,HGS.out];go_num,by have:=HGS.out;rw [<-HG.out];omega,HB.out.alloc HB.out.size _⟩
     case measure=>simp [intOf];omega)):p:=h
theorem Y51 {p:Prop} (h:p:=by
 cases ho
 exact vl ⟨rfl,rfl⟩):p:=h
theorem Y52 {p:Prop} (h:p:=by
 refine gg hfr fun t=>?_
 go_wp2_with fail
 all_goals
  go_ret
  exact⟨rfl,HW.out⟩):p:=h
theorem Y53 {p:Prop} (h:p:=by
 have hb:=hGW.2
 clear hV hGW
 simp [putU,dstAt,Act.put]
 exact HQ.out _ _ ⟨rfl,rfl,rfl,rfl,rfl,rfl,rfl,rfl,rfl,hr,trivial⟩ hb):p:=h
theorem Y54 {p:Prop} (h:p:=by
 exact wp_value' (.int .i64 0) W (by unfold execOp;go_simp) ⟨_,rfl,rfl,hGW,hrefl W⟩):p:=h
theorem Y55 {p:Prop} (h:p:=by
 intro U W hGW hV
 have h25:U 25=.bool true:=hV 25 kd
 obtain⟨HG,HU⟩:=J2 hGW.1 h25
 clear hV hGW h25
 simp [putU,dstAt,Act.put,HU.out]
 go_wp2
 go_ret
 exact⟨rfl,HG.out⟩):p:=h
theorem Y56 {p:Prop} (h:p:=by
 have hjl:j<l.size:=by omega
 have hij:¬ i=j:=fun e=>hji e.symm
 simp [Array.getD,hjl,hij] at hlj ⊢
 exact hlj):p:=h
theorem Y57 {p:Prop} (h:p:=by
 clear ho
 have hn2:=HNX.out
 rw [HD.out] at hn2
 have HN2:=J hn2
 clear hn2
 go_wp2_with fail
 exact HN2.out _ _ ff H1.out HB.out):p:=h
theorem Y58 {p:Prop} (h:p:=by
 conv=>arg 2;whnf
 go_wp2_with fail
 go_ret
 exact⟨ret_bool' (by rw [HS.out];rfl),HB.out⟩):p:=h
theorem Y59 {p:Prop} (h:p:=by
 rintro e W' ⟨rfl,hb⟩
 exact⟨_,rfl,_,rfl,rfl,⟨hGW.1.below hb hGW.1.lt,hGW.2.trans (hb.mono hGW.2.size)⟩,trivial⟩):p:=h
theorem Y60 {p:Prop} (h:p:=by
 obtain⟨c0,c1⟩:=hb.cs 0 2
 have HQ:=J hQ
 clear hQ hb
 refine gg hfr fun t=>?_
 go_wp2_with fail
 all_goals
  refine HQ.out _ ⟨rfl,rfl,rfl,rfl,?_,trivial⟩
  refine congrArg Value.bool ?_
  by_cases q1:N=0<;>by_cases q2:E=0<;>(rw [Bool.eq_iff_iff];simp [rowHead,q1,q2];(try rw [beq_eq_false_iff_ne.2 q1,beq_eq_false_iff_ne.2 q2]);(try simp);(try omega))):p:=h
theorem Y61 {p:Prop} (h:p:=by
 have hb:=hGW.2
 clear hV hGW
 simp [putU,dstAt,Act.put]
 exact HQ.out _ _ ⟨rfl,rfl,rfl,rfl,rfl,rfl,rfl,hr,trivial⟩ hb):p:=h
theorem Y62 {p:Prop} (h:p:=by
 go_enter func88,ntmps88
 go_wp2_with fail
 go_quiet (fail)
 go_wp2_with fail
 go_ret
 exact⟨rfl,below_drewN HB0.out _⟩):p:=h
theorem Y63 {p:Prop} (h:p:=by
 go_wp2_with fail
 go_quiet (fail)
 have h82:=L8.out.drewN nq
 obtain⟨W,HWW,z0,z1,z2,HKK,HLL,y0,y1,y2,f0⟩:=de h82 121 0 0
 clear h82
 go_wp2
 rw [<-HWW.out]
 refine dr 121 0 0 ?_
 exact⟨⟨_,_,_,rfl⟩,RActed.idle H0.out ((below_drewN LB1.out nq).trans (HLL.out.mono (by omega))) HB.out⟩):p:=h
theorem Y64 {p:Prop} (h:p:=by
 cases hk;cases ho;obtain rfl:=List.eq_nil_of_length_eq_zero hvl;obtain rfl:=hS
 exact wp_value' (.pointer (some ⟨W.heap.size,0,none⟩)) (W.alloc (.cells (#[.int .i64 0,.int .i64 0,.int .i64 0,.int .i64 0,.int .i64 0,.int .i64 0,.string ⟨#[]⟩,.int .i64 0,.slice none 0 0]) 45)) (by unfold execOp;go_simp) ⟨_,rfl,rfl,rfl⟩):p:=h
theorem Y65 {p:Prop} (h:p:=by
 rintro e W' ⟨rfl,hb⟩
 exact⟨_,rfl,_,rfl,rfl,hGW.trans (hb.mono hGW.size),hb⟩):p:=h
theorem Y66 {p:Prop} (h:p:=by
 intro w' h1 h3
 have H1:=J h1
 have H2:=J (HB.out.trans (⟨h3.os,h3.tape,h3.output,h3.size,fun b hb=>h3.block b (by omega) (fun e=>by injection e;omega)⟩:Below g wr w'))
 clear h1 h3
 go_wp2_with fail
 go_roundw
 case rel=>exact⟨⟨2,by omega,rfl,H1.out⟩,H2.out⟩
 case measure=>simp [intOf]):p:=h
theorem Y67 {p:Prop} (h:p:=by
 intro w' h1 h3
 have H1:=J h1
 have H2:=J (HB.out.trans (⟨h3.os,h3.tape,h3.output,h3.size,fun b hb=>h3.block b (by omega) (fun e=>by injection e;omega)⟩:Below g wr w'))
 clear h1 h3
 go_wp2_with fail
 go_roundw
 case rel=>exact⟨⟨4,by omega,rfl,H1.out⟩,H2.out⟩
 case measure=>simp [intOf]):p:=h
theorem Y68 {p:Prop} (h:p:=by
 refine⟨(List.range len).map fun i=>if h:i<len then (hex i h).choose else default,by simp,fun i hil=>⟨(hex i hil).choose,by simp [hil],(hex i hil).choose_spec⟩⟩):p:=h
theorem Y69 {p:Prop} (h:p:=by
 refine gg hfr fun t=>?_
 go_wp2_with fail
 refine HQ.out _ _ (bodyPost_ret (results_tmp rfl _ _ _) rfl ?_)
 exact HR.out):p:=h
theorem Y70 {p:Prop} (h:p:=by
 cases hk;cases ho;obtain rfl:=List.eq_nil_of_length_eq_zero hvl;have e25:=fev qa qb 5 25;have t25:=act_tmp e25;obtain rfl:=hS
 exact wp_value' (.slice (some ⟨W.heap.size,0,none⟩) 1 1) (W.alloc (.cells (oC o.n o.epoch o.kind o.site o.client o.seq o.name o.size A n c) 45)) (by unfold execOp;go_simp) ⟨_,rfl,rfl,rfl⟩):p:=h
theorem Y71 {p:Prop} (h:p:=by
 cases ho;have:=tx 0 5;have:=tx 1 6
 exact vna (h:=by unfold execOp;go_simp;all_goals (by_cases q1:N=0<;>by_cases q2:E=0<;>first|omega|simp_all))):p:=h
theorem Y72 {p:Prop} (h:p:=by
 clear HE HSB
 go_enter func44,ntmps44
 conv=>arg 2;arg 2;arg 2;arg 2;arg 2;change part [1,1,1,1] (codeOf shipLF)
 go_wp2_with fail
 rw [<-HW.out]
 go_quiet (fail)
 go_wp2_with fail
 exact HD.out _ _ ⟨rfl,rfl,rfl,rfl,rfl,congrArg (fun n=>Value.pointer (some ⟨n,0,none⟩)) HZ1.out,trivial⟩):p:=h
theorem Y73 {p:Prop} (h:p:=by
 rw [<-hl];clear hl
 have hsc:∃ cs,Blk (W.setCells b6 0 l) b6 30 cs/\cs.size=17:=⟨_,hn,by rw [<-hla];simp [hll]⟩
 have hg4:w0.heap.size<=(W.setCells b6 0 l).heap.size:=by rw [hsz];exact g4
 exact⟨_,rfl,hn,⟨⟨hg1,hg2,hg3,hg4⟩,hsc,⟨cs',hg7,g8⟩⟩,hkb,fun _=>hn,hf2⟩):p:=h
theorem Y74 {p:Prop} (h:p:=by
 exact wp_value' (.agg #[.int .i64 3,.int .i64 epoch,.int .i64 site,.int .i64 0,.int .i64 0,.int .i64 0,.int .i64 0,.int .i64 0,.int .i64 0,.string ⟨#[]⟩,.int .i64 0,.slice none 0 0,.int .i64 aN,.int .i64 aE,.slice A' pn c',.int .i64 0]) W (by unfold execOp;go_simp) ⟨_,rfl,⟨A',c',rfl,hi⟩,hGW,hrefl W⟩):p:=h
theorem Y75 {p:Prop} (h:p:=by
 exact wp_value' (.int .i64 2) W (by unfold execOp;go_simp) ⟨_,rfl,rfl,hGW,hrefl W⟩):p:=h
theorem Y76 {p:Prop} (h:p:=by
 exact absurd (by decide) hni):p:=h
theorem Y77 {p:Prop} (h:p:=by
 go_wp2_with fail
 go_ret
 exact⟨rfl,HF.out⟩):p:=h
theorem Y78 {p:Prop} (h:p:=by
 rw [hw1]
 have h0:=Blk.new (w.alloc (.cells (oC N epoch o.kind site o.client o.seq o.name o.size A n c) 45)) 50 #[.int .i64 0,.int .i64 0,.int .i64 0]
 have e:(w.alloc (.cells (oC N epoch o.kind site o.client o.seq o.name o.size A n c) 45)).heap.size=w.heap.size+1:=by simp
 rw [e] at h0
 exact h0):p:=h
theorem Y79 {p:Prop} (h:p:=by
 refine⟨(h.led.kept (hk.mono fun b _ hb e=>hn (e▸hb))).mono (fun b hb hx=>?_) (New.lt h.hY hB (by omega)),⟨by omega,fun b hb hlt=>(hk.2 b (by omega) (by omega)).trans (h.kept.2 b hb hlt)⟩,h.low.trans (hl.mono (by omega))⟩
 rcases hx with hx|hx
 ·exact .inl hx
 ·exact .inr ⟨by omega,hb⟩):p:=h
theorem Y80 {p:Prop} (h:p:=by
 have:=List.all_eq_true.1 h3 i (List.mem_range.2 hi)
 rw [ho] at this
 simp only [Bool.and_eq_true,Option.isNone_iff_eq_none,Array.all_eq_true_iff_forall_mem,Bool.or_eq_true,Bool.not_eq_true',decide_eq_true_eq] at this
 exact⟨this.1,fun e he hb=>(this.2 e he).resolve_left (by rw [hb];simp)⟩):p:=h
theorem Y81 {p:Prop} (h:p:=by
 go_ret
 exact⟨ret_bool' (by simp [placeB,Q0.out,Q1.out,Q2.out,Q3.out,N0.out,E0.out]),HB.out⟩):p:=h
theorem Y82 {p:Prop} (h:p:=by
 have hj:j<n:=by have:=(List.getElem?_eq_some_iff.1 hu).1;simp [intV] at this;rw [HL.out] at this;exact this
 have e:(⟨w.heap.size,0,none⟩:Addr).add j=⟨w.heap.size,j,none⟩:=by simp [Addr.add];try exact fun h=>h.symm
 rw [e,HBK.out.cell j,HCU.out j hj]
 exact hu):p:=h
theorem Y83 {p:Prop} (h:p:=by
 refine gg hfr fun t=>?_
 go_wp2_with fail
 refine HQ.out _ _ ⟨rfl,rfl,rfl,rfl,?_,trivial⟩ (Below.refl _ _)
 refine congrArg Value.bool ?_
 rfl):p:=h
theorem Y84 {p:Prop} (h:p:=by
 go_wp2_with fail
 refine (HG3.out _ HB0.out).mono ?_
 rintro e w1 ⟨rfl,hb1⟩
 have hk:=HBK.out.below hb1 HBK.out.lt
 have c7:=hk.c1 7
 have HB1:=J (HB0.out.trans (hb1.mono HB0.out.size))
 clear hb1 hk
 go_wp2
 go_ret
 exact⟨rfl,HB1.out⟩):p:=h
theorem Y85 {p:Prop} (h:p:=by
 rw [e]
 refine wp_ret (HRET.out _ _ (bodyPost_ret (rmeet_results (b6:=b6) (b7:=b7) rfl rfl rfl L6.out L7.out) rfl ?_))
 exact HR.out _ HB.out HK.out):p:=h
theorem Y86 {p:Prop} (h:p:=by
 have HQ:=J hQ
 have d:=hm.c1 6
 clear hQ hm
 refine gg hfr fun t=>?_
 go_wp2_with fail
 go_loopw [6] (fun i wr=>i=.int .i64 0/\wr=w) (fun _ _=>0)
 case atStart=>exact⟨rfl,rfl⟩
 case round=>
  obtain⟨rfl,rfl⟩:=hrel
  go_wp2_with fail
  exact HQ.out _ ff):p:=h
theorem Y87 {p:Prop} (h:p:=by
 have HQ:=J hQ
 have d:=hm.c1 8
 clear hQ hm
 refine gg hfr fun t=>?_
 go_wp2_with fail
 go_loopw [7] (fun i wr=>i=.int .i64 0/\wr=w) (fun _ _=>0)
 case atStart=>exact⟨rfl,rfl⟩
 case round=>
  obtain⟨rfl,rfl⟩:=hrel
  go_wp2_with fail
  exact HQ.out _ ff):p:=h
theorem Y88 {p:Prop} (h:p:=by
 rintro e W' ⟨g,c',rfl,_,_,_,hb⟩
 exact⟨_,rfl,_,rfl,⟨g,c',rfl⟩,⟨hGW.1.trans (hb.mono hGW.1.size),Nat.lt_of_lt_of_le hGW.2.1 hb.size,cells17_below hGW.2.2 hb⟩,Save.of hb,hb.size,fun ⟨g,c',h⟩=>⟨g,c',h.below hb h.lt⟩⟩):p:=h
theorem Y89 {p:Prop} (h:p:=by
 obtain⟨H8,HB1,HZ1,H0,HB⟩:=J5 h8 hb1 hz1 h hB
 have o0:=hbo.c1 5
 obtain⟨p0,p1,p2,p3,p4,p5,p6,p7,p8⟩:=hbw.cs 0 9
 have HK:=J hK
 clear hK
 clear h hB hz1 hb1 h8 hbo hbw
 refine gg hfr fun t=>?_
 go_wp2_with fail
 exact HK.out _ ff):p:=h
theorem Y90 {p:Prop} (h:p:=by
 cases ho;have hrb4:=ow 4 E4;have hrb6:=ow 6 E6;have hrb7:=ow 7 E7;have hrbo:=ow 11 EO;clear hat hoff hp;have hx:=act_tmp hrb4
 exact wp_value' (.pointer (some ⟨b4,11,none⟩)) W (by unfold execOp;go_simp) ⟨_,rfl,rfl,hGW,trivial⟩):p:=h
theorem Y91 {p:Prop} (h:p:=by
 go_wp2
 go_ret
 exact⟨rfl,HB.out⟩):p:=h
theorem Y92 {p:Prop} (h:p:=by
 intro w
 have q:∀ (w:World),(binOp .eql 28 (.slice none 0 c) (.slice none 0 0)).run prog w=.ok (.bool true) w:=fun w=>Lib.run_eql_slice_nil w _ _ none 0 c 0 0 underlying28
 go_enter func98,ntmps98
 go_wp2
 go_ret
 exact⟨rfl,rfl⟩):p:=h
theorem Y93 {p:Prop} (h:p:=by
 rintro ⟨A',c',h1,h2⟩
 exact⟨A',c',hsv.blk h1 (Ne.symm HNE.out.1),h2.kept ⟨hkb.1,fun b k1 k2=>hkb.2 b ⟨by have:w0.heap.size<=b:=k1;have:=HBB.out;omega,by have:w0.heap.size<=b:=k1;have:=HBB.out;omega⟩ k2⟩⟩):p:=h
theorem Y94 {p:Prop} (h:p:=by
 go_wp2
 refine⟨⟨k+1,_,_,_,hk1,rfl,rfl,by rw [HNE.out,<-HW3.out];exact HS.out.below HB3.out,HZ.out,by have:=HN'.out;omega,by rw [<-HW3.out];exact HBW.out.trans (HB3.out.mono HBW.out.size)⟩,by simp only [intOf];omega⟩):p:=h
theorem Y95 {p:Prop} (h:p:=by
 exact wp_value' (.int .i64 1) W (by unfold execOp;go_simp) ⟨_,rfl,rfl,hGW,hrefl W⟩):p:=h
theorem Y96 {p:Prop} (h:p:=by
 cases ho;have hrb4:=ow 4 E4;have hrb6:=ow 6 E6;have hrb7:=ow 7 E7;clear hat hoff hp;have hx:=act_tmp hrb4
 exact wp_value' (.pointer (some ⟨b4,11,none⟩)) W (by unfold execOp;go_simp) ⟨_,rfl,rfl,hGW,hrefl W⟩):p:=h
theorem Y97 {p:Prop} (h:p:=by
 rintro e W' ⟨rfl,hb⟩
 exact⟨_,rfl,_,rfl,rfl,⟨hGW.1.trans (hb.mono hGW.1.size),Nat.lt_of_lt_of_le hGW.2.1 hb.size,cells17_below hGW.2.2 hb⟩,Save.of hb,hb.size,fun ⟨g,c',h⟩=>⟨g,c',h.below hb h.lt⟩⟩):p:=h
theorem Y98 {p:Prop} (h:p:=by
 go_wp2_with fail
 refine (awake_any _).mono ?_
 rintro e w7 ⟨rfl,hb7⟩
 have HB7:=J (HM6.out.low.trans (hb7.mono HM6.out.low.size))
 clear hb7
 go_wp2_with fail
 go_ret
 exact⟨rfl,HB7.out⟩):p:=h
theorem Y99 {p:Prop} (h:p:=by
 rcases vs with _|⟨u,_|⟨v,_|⟨x,l⟩⟩⟩
 ·obtain rfl:=h;exact Below.refl _ _
 ·obtain⟨_,rfl⟩:=h;exact (Below.refl _ _).alloc (Nat.le_refl _) _
 ·obtain⟨_,_,_,_,h⟩:=h;exact h
 ·simp at hl):p:=h
theorem Y100 {p:Prop} (h:p:=by
 have HRR:=J hr
 clear hr
 go_wp2
 go_roundw
 case rel=>exact⟨k+1,by omega,by go_num,by rw [HRR.out,<-HE.out];exact HB1.out,HB0.out,hbw⟩
 case measure=>simp [intOf];omega):p:=h
theorem Y101 {p:Prop} (h:p:=by
 have HS1:=J hS1
 clear hS1
 go_wp2_with fail
 refine HQ.out _ _ ⟨rfl,rfl,rfl,rfl,rfl,rfl,rfl,rfl,?_,trivial⟩ HB.out
 rw [HT.out,<-HR9.out];simp [HK.out,HE1.out,HS1.out];rfl):p:=h
theorem Y102 {p:Prop} (h:p:=by
 refine gg hfr fun t=>?_
 go_wp2_with fail
 go_ret
 exact⟨rfl,HW0.out⟩):p:=h
theorem Y103 {p:Prop} (h:p:=by
 have HS1:=J hS1
 clear hS1
 go_wp2_with fail
 refine HQ.out _ _ ⟨rfl,rfl,rfl,rfl,rfl,rfl,rfl,?_,trivial⟩ HB.out
 rw [HT.out,<-HR9.out];simp [HK.out,HE1.out,HS1.out];rfl):p:=h
theorem Y104 {p:Prop} (h:p:=by
 have hdr:l.drop n=[]:=List.drop_of_length_le (by rw [HL.out];exact Nat.le_refl _)
 have HDR:=J hdr
 clear hdr
 go_wp2
 go_ret
 exact⟨ret_bool' (by rw [HRL.out,HDR.out];rfl),rfl⟩):p:=h
theorem Y105 {p:Prop} (h:p:=by
 exact wp_value' (.agg #[.int .i64 0,.int .i64 0]) W (by unfold execOp;go_simp) ⟨_,rfl,rfl,hGW,hrefl W⟩):p:=h
theorem Y106 {p:Prop} (h:p:=by
 intro p hp
 simp only [List.mem_cons,List.not_mem_nil,or_false] at hp
 rcases hp with rfl|rfl|rfl|rfl|rfl|rfl|rfl|rfl|rfl|rfl|rfl|rfl|rfl|rfl<;>exact⟨by kernel_rfl,by kernel_rfl⟩):p:=h
theorem Y107 {p:Prop} (h:p:=by
 exact⟨rfl,((Below.refl _ _).alloc (Nat.le_refl _) _).alloc (by simp) _⟩):p:=h
theorem Y108 {p:Prop} (h:p:=by
 rintro e w1 ⟨rfl,hb1⟩
 have HB1:=J hb1
 clear hb1
 go_wp2_with fail
 refine HQ.out _ _ ⟨rfl,rfl,rfl,rfl,?_,trivial⟩ HB1.out
 rename_i h1 h2 h3 h4
 simp [noneB,h1,h2,h3,h4,at_]):p:=h
theorem Y109 {p:Prop} (h:p:=by
 have hg:=(HL.out.fold.blk.below hsm HL.out.fold.blk.lt)
 have d0:=hg.c1 5
 exact vl ⟨rfl,rfl⟩):p:=h
theorem Y110 {p:Prop} (h:p:=by
 simp only [Bool.or_eq_true,bne_iff_ne,ne_eq,beq_iff_eq,Option.isNone_iff_eq_none] at this
 rcases this with (h|h)|h
 ·rw [e1] at h;cases h
 ·exact absurd (e1.trans e2.symm) h
 ·exact h):p:=h
theorem Y111 {p:Prop} (h:p:=by
 exact wp_value' (.slice (some ⟨W.heap.size,0,none⟩) 1 1) (W.alloc (.cells (oC o.n o.epoch o.kind o.site o.client o.seq o.name o.size none 0 0) 45)) (by unfold execOp;go_simp) ⟨_,rfl,rfl,rfl⟩):p:=h
theorem Y112 {p:Prop} (h:p:=by
 obtain⟨HL2,HT⟩:=J2 hl' ht
 clear hrun hl' ht
 go_wp2_with fail
 exact HQ.out _ _ ff HL2.out HT.out):p:=h
theorem Y113 {p:Prop} (h:p:=by
 rintro e w1 ⟨rfl,rfl⟩
 rw [hv]
 dsimp only
 go_wp2_with fail
 go_ret
 exact⟨rfl,HW.out⟩):p:=h
theorem Y114 {p:Prop} (h:p:=by
 simp only [Int.toNat_natCast]
 omega):p:=h
theorem Y115 {p:Prop} (h:p:=by
 have ht1:=act_tmp (hat 1 17 kd rfl);clear hat hoff hp;rw [hv1] at ht1
 exact wp_value' (.pointer (some ⟨lb,5,none⟩)) W (by unfold execOp;go_simp) ⟨_,rfl,rfl,hGW,hrefl W⟩):p:=h
theorem Y116 {p:Prop} (h:p:=by
 have ht5:=act_tmp (hat 5 21 kd rfl);clear hat hoff hp;rw [hv5] at ht5
 exact wp_value' (.pointer (some ⟨lb,6,none⟩)) W (by unfold execOp;go_simp) ⟨_,rfl,rfl,hGW,hrefl W⟩):p:=h
theorem Y117 {p:Prop} (h:p:=by
 cases ho
 have hsm:=hS.some (hlim 2 8 rfl rfl)
 have hb5:=HO.out.below hsm HO.out.lt
 obtain⟨d0,d1,d2,d3,d4,d5,d6,d7,d8⟩:=hb5.cs 0 9
 exact vl ⟨rfl,rfl⟩):p:=h
theorem Y118 {p:Prop} (h:p:=by
 exact⟨⟨_,_,_,rfl⟩,RActed.idle H0.out (HB1.out.trans (HLL.out.mono (by omega))) HB.out⟩):p:=h
theorem Y119 {p:Prop} (h:p:=by
 have:=opB_fits hdo.1
 exact⟨⟨hok.op.n,hok.op.epoch,this.ok.kind,hok.op.site,this.ok.client,this.ok.seq,this.ok.name,this.ok.size,this.ok.hs⟩,this.name,this.size⟩):p:=h
theorem Y120 {p:Prop} (h:p:=by
 simp only [hasB,e0,e1,e2,e3,ho,Bool.true_and,Bool.false_or]
 rw [Bool.and_eq_false_imp]
 intro h1
 exact decide_eq_false fun h2=>hne ⟨of_decide_eq_true h1,h2⟩):p:=h
theorem Y121 {p:Prop} (h:p:=by
 refine gg hfr fun t=>?_
 go_wp2_with fail
 go_quiet (fail)
 go_wp2_with fail
 exact HQ.out _ _ (bodyPost_ret (results_tmp rfl _ _ _) rfl ⟨rfl,below_drewN HW.out _⟩)):p:=h
theorem Y122 {p:Prop} (h:p:=by
 obtain rfl:=hS.nil_ (hlim 0 10 rfl rfl)
 have d0:=HO.out.c1 0
 exact vl ⟨rfl,rfl⟩):p:=h
theorem Y123 {p:Prop} (h:p:=by
 refine bodyPost_ret (results_tmp rfl _ _ _) rfl ?_
 refine⟨congrArg (fun b=>Ending.returned (Value.bool b)) ?_,HW.out⟩
 rw [HE.out,Bool.eq_iff_iff]
 simp
 try omega):p:=h
theorem Y124 {p:Prop} (h:p:=by
 cases ho;refine on_ (wanted_none rfl) ?_;obtain⟨c0,c1⟩:=hGW.2.cs 0 2
 exact wp_value' (.agg #[N,E]) W (by unfold execOp;go_simp) ⟨_,rfl,rfl,hGW,hrefl W⟩):p:=h
theorem Y125 {p:Prop} (h:p:=by
 go_wp2_with fail
 exact HQ.out _ _ ff HN.out HB.out):p:=h
theorem Y126 {p:Prop} (h:p:=by
 exact HNX.out _ _ ff H1.out HB.out):p:=h
theorem Y127 {p:Prop} (h:p:=by
 simp at d0
 exact vl ⟨rfl,rfl⟩):p:=h
theorem Y128 {p:Prop} (h:p:=by
 have hk:Kept S w w':=⟨ht.size,fun b h1 h2=>ht.1 b h2 (by rintro rfl;exact hL h1)⟩
 exact⟨.inr hl,h.box.kept hk h.bxS,h.bxS,h.ops.kept hk,h.turn.trans ht⟩):p:=h
theorem Y129 {p:Prop} (h:p:=by
 go_wp2_with fail
 refine HS.out.mono ?_
 rintro e w1 ⟨rfl,hb1⟩
 have HB1:=J (HB.out.trans (hb1.mono HB.out.size))
 clear hb1
 go_wp2
 go_ret
 exact⟨rfl,HB1.out⟩):p:=h
theorem Y130 {p:Prop} (h:p:=by
 go_wp2_with fail
 exact shp1 _ ff HK1.out HO1.out HZ.out HB2.out (by rw [HRES.out];rfl)):p:=h
theorem Y131 {p:Prop} (h:p:=by
 exact wp_value' (.int .i64 N) W (by unfold execOp;go_simp) ⟨_,rfl,rfl,hGW,hrefl W⟩):p:=h
theorem Y132 {p:Prop} (h:p:=by
 unfold updU
 by_cases hji:j=i
 ·subst hji;rw [if_pos rfl];exact hv
 ·rw [if_neg hji]
  exact hmono _ _ _ _ hx (hV j hj (hold j hj hlj hji))):p:=h
theorem Y133 {p:Prop} (h:p:=by
 have HK:=J hK
 clear hK
 clear h hb
 refine gg hfr fun t=>?_
 go_wp2_with fail
 go_quiet (fail)
 go_wp2_with fail
 exact HK.out _ _ ff (below_drewN (Below.refl _ _) _)):p:=h
theorem Y134 {p:Prop} (h:p:=by
 exact⟨⟨_,_,_,rfl⟩,by rw [HRE.out];exact RActed.idle (H0.out.more (Nat.le_add_right k 80)) ((below_drewN KB1.out nq).trans (HLL.out.mono (by omega))) HB.out⟩):p:=h
theorem Y135 {p:Prop} (h:p:=by
 cases ho;have:=tx 0 13;have:=tx 1 14
 exact vna (h:=by unfold execOp;go_simp;(by_cases q1:N=0<;>by_cases q2:E=0<;>first|omega|simp_all))):p:=h
theorem Y136 {p:Prop} (h:p:=by
 have hk:Kept S w w':=⟨ht.size,fun b h1 h2=>ht.1 b h2 (by rintro rfl;exact hL h1)⟩
 exact⟨hl,h.box.kept hk h.bxS,h.bxS,h.ops.kept hk,h.turn.trans ht⟩):p:=h
theorem Y137 {p:Prop} (h:p:=by
 exact rightNo1 w2 (fun e w'=>e=.returned (.bool r)/\Below w0 w0 w') _ a3 mb ⟨f3.1,f3.2.1,f3.2.2.1,trivial⟩ ⟨by rw [hres,hc];rfl,hbb⟩ fun _ _ hq=>hq):p:=h
theorem Y138 {p:Prop} (h:p:=by
 have d2:decide (0<qn)=false:=decide_eq_false (by omega)
 clear hQ h h0
 refine gg hfr fun t=>?_
 go_wp2_with fail
 exact HQ.out _ _ _ _ ff HS.out):p:=h
theorem Y139 {p:Prop} (h:p:=by
 go_wp2_with fail
 go_ret
 exact⟨ret_bool' (by rw [HRES.out];rfl),HB2.out⟩):p:=h
theorem Y140 {p:Prop} (h:p:=by
 simp [Array.getD,hil] at hln ⊢
 exact hln):p:=h
theorem Y141 {p:Prop} (h:p:=by
 unfold updU
 by_cases hji:j=i
 ·subst hji;rw [if_pos rfl];exact hst.2 hw'
 ·rw [if_neg hji]
  exact hV j hj (hold j hj hlj hji)):p:=h
theorem Y142 {p:Prop} (h:p:=by
 obtain⟨k0,k1,k2,k3,k4,k5,k6,k7,k8⟩:=HP.out.below hsm HAB.out
 simp only [OpC.at_] at k0 k1 k2 k3 k4 k5 k6 k7 k8
 exact vl ⟨rfl,rfl⟩):p:=h
theorem Y143 {p:Prop} (h:p:=by
 rw [hat] at hv
 obtain⟨x,rfl,hx⟩:=plainElem_bool_inv underlying4 hv
 injection hx with hx _
 injection hx with hx
 injection hx with hx
 rw [hrun,hx]):p:=h
theorem Y144 {p:Prop} (h:p:=by
 refine HQ.out _ _ ⟨rfl,rfl,rfl,rfl,?_,trivial⟩ (Below.refl _ _)
 refine congrArg Value.bool ?_
 rw [Bool.eq_iff_iff]
 simp [noneB]
 try omega):p:=h
theorem Y145 {p:Prop} (h:p:=by
 have h:=within_new 1 5 m.kind g t W hg
 have e:(decide (1<=m.kind)&&decide (m.kind<=5))=false:=by rw [HK.out];rfl
 rw [e] at h
 exact h):p:=h
theorem Y146 {p:Prop} (h:p:=by
 intro h4
 obtain⟨k1,k2,k3⟩:=h.v4 h4
 exact⟨k1,(k2.mono fun q hq hh=>hx q hq hh).below hb,(k3.mono fun q hq hh=>hx q hq hh).below hb⟩):p:=h
theorem Y147 {p:Prop} (h:p:=by
 have:decide (N<=(cs.length:Int))=false:=decide_eq_false (by omega)
 simp only [hasB,e0,this,Bool.false_and,Bool.and_false,Bool.or_false]):p:=h
theorem Y148 {p:Prop} (h:p:=by
 go_wp2
 exact bodyPost_ret (v:=spotV 0 0) (by simp [results,results55,go_sem,spotV]) rfl ⟨rfl,((Below.refl _ _).alloc (Nat.le_refl _) _)⟩):p:=h
theorem Y149 {p:Prop} (h:p:=by
 exact⟨rfl,(Below.refl _ _).alloc (Nat.le_refl _) _⟩):p:=h
theorem Y150 {p:Prop} (h:p:=by
 rw [hw1]
 exact (Blk.new w 45 (oC N epoch o.kind site o.client o.seq o.name o.size A n c)).alloc (.cells #[.int .i64 0,.int .i64 0,.int .i64 0] 50)):p:=h
theorem Y151 {p:Prop} (h:p:=by
 exact⟨⟨_,_,_,rfl⟩,RActed.idle H0.out (HB1.out.trans ((HB12.out.mono (by have:=HZ1.out;omega)).trans (HLL.out.mono (by omega)))) HB.out⟩):p:=h
theorem Y152 {p:Prop} (h:p:=by
 rw [put_put_same,putU_cong i (U:=U) (U':=updU U i v) (fun j hj=>by unfold updU;rw [if_neg (by omega)])]
 unfold updU
 rw [if_pos rfl]):p:=h
theorem Y153 {p:Prop} (h:p:=by
 clear hQ ho
 refine gg hfr fun t=>?_
 go_wp2_with fail
 exact HQ.out _ ⟨rfl,rfl,rfl,rfl,rfl,rfl,rfl,congrArg Value.bool HV.out,trivial⟩):p:=h
theorem Y154 {p:Prop} (h:p:=by
 exact wp_value' (.int .i64 (max settled N)) W (by unfold execOp;go_simp;all_goals first|omega|exact IntWalk.i64_in _ (by omega)) ⟨rfl,rfl⟩):p:=h
theorem Y155 {p:Prop} (h:p:=by
 rintro e W' ⟨A',c',rfl,h1,h2⟩
 rw [hz1] at h1 h2
 exact⟨_,rfl,_,rfl,⟨A',c',rfl,h1,hb1.trans (h2.mono (by omega))⟩⟩):p:=h
theorem Y156 {p:Prop} (h:p:=by
 rcases e4 with h4|h4
 ·exact hob q (h4▸hq)
 ·rw [h4] at hq
  injection hq with hq
  exact .inr (by omega)):p:=h
theorem Y157 {p:Prop} (h:p:=by
 obtain⟨os,h1,_⟩:=h
 rcases Nat.eq_zero_or_pos n with h0|h0
 ·exact h0
 ·obtain⟨_,e,_⟩:=h1.2 h0
  cases e):p:=h
theorem Y158 {p:Prop} (h:p:=by
 rcases vs with _|⟨u,l⟩
 ·exact h
 ·simp at hl):p:=h
theorem Y159 {p:Prop} (h:p:=by
 go_wp2_with fail
 go_roundw
 case rel=>exact⟨j,by omega,rfl,HN.out,HR.out,HBW.out⟩
 case measure=>simp [intOf]):p:=h
theorem Y160 {p:Prop} (h:p:=by
 have hsm:=hS.low
 have hg:=HG.out.below hsm HG.out.lt
 have d0:=hg.cell 0
 rw [H5.out] at d0
 exact vl ⟨rfl,rfl⟩):p:=h
theorem Y161 {p:Prop} (h:p:=by
 have hsm:=hS.low (hlim 2 20 rfl rfl)
 have hx8:=HX8.out.below hsm HX8.out.lt
 have d0:=hx8.c1 0
 exact vl ⟨rfl,rfl⟩):p:=h
theorem Y162 {p:Prop} (h:p:=by
 go_wp2_with fail
 go_ret
 exact⟨rfl,HB2.out⟩):p:=h
theorem Y163 {p:Prop} (h:p:=by
 refine gg hfr fun t=>?_
 go_wp2_with fail
 go_ret
 exact⟨rfl,hw⟩):p:=h
theorem Y164 {p:Prop} (h:p:=by
 go_wp2_with fail
 rw [<-HW.out]
 exact HR.out _ ff):p:=h
theorem Y165 {p:Prop} (h:p:=by
 exact rightNo2 w1 (fun e w'=>e=.returned (.bool b)/\Below w0 w0 w') _ a1 mb hF1 ⟨by rw [hres,hc];rfl,hb1⟩ fun _ _ hq=>hq):p:=h
theorem Y166 {p:Prop} (h:p:=by
 obtain⟨s,h3,h4,_⟩:=h2 i (by omega)
 rw [List.getElem?_eq_getElem hil] at h3
 injection h3 with h3
 rw [h3]
 exact h4):p:=h
theorem Y167 {p:Prop} (h:p:=by
 refine round _ ?_ a2 w2 hI ?_
 ·intro a' W lA' lc' h1 h2 h3 h4 h5
  exact hQ a' W lA' lc' h1 h2 h3 h4 h5
 ·exact fun a' w' hh=>hh):p:=h
theorem Y168 {p:Prop} (h:p:=by
 rw [e]
 intro he
 have:q9=q:=by injection he with he;injection he with he;injection he
 have:=k.lt
 omega):p:=h
theorem Y169 {p:Prop} (h:p:=by
 have HQ:=J hQ
 clear hQ
 refine gg hfr fun t=>?_
 go_wp2_with fail
 rw [run_makeMap_plain]
 go_wp2_with fail
 exact HQ.out _ ff):p:=h
theorem Y170 {p:Prop} (h:p:=by
 rw [List.getElem?_take] at hu
 split at hu
 ·exact hu
 ·cases hu):p:=h
theorem Y171 {p:Prop} (h:p:=by
 go_wp2_with fail
 go_quiet (fail)
 go_wp2
 go_ret
 exact⟨rfl,below_drewN ((Below.refl _ _).alloc (Nat.le_refl _) _) _⟩):p:=h
theorem Y172 {p:Prop} (h:p:=by
 go_wp2_with fail
 go_ret
 exact⟨rfl,below_drewN HB.out _⟩):p:=h
theorem Y173 {p:Prop} (h:p:=by
 rw [updU_eq]
 intro he
 have:W.heap.size=q:=by injection he with he;injection he with he;injection he
 omega):p:=h
theorem Y174 {p:Prop} (h:p:=by
 obtain rfl:=hS.nil_ (hlim 0 12 rfl rfl)
 have d0:=HG.out.cell 5
 rw [H5.out] at d0
 exact vl ⟨rfl,rfl⟩):p:=h
theorem Y175 {p:Prop} (h:p:=by
 have:decide (1<=N)=false:=decide_eq_false (by omega)
 simp only [hasB,e0,this,Bool.false_and,Bool.or_false]):p:=h
theorem Y176 {p:Prop} (h:p:=by
 go_wp2_with fail
 exact HNX.out (by rw [HC.out];rfl) _ _ ff HK4.out (HB.out.trans (HZ4.out.mono HB.out.size))):p:=h
theorem Y177 {p:Prop} (h:p:=by
 clear h82
 go_wp2
 rw [<-HWW.out]
 refine dr 121 0 0 ?_
 exact⟨⟨_,_,_,rfl⟩,HH.out.end_ HKK.out HLL.out⟩):p:=h
theorem Y178 {p:Prop} (h:p:=by
 rcases Nat.lt_or_ge k chain.length with h|h
 ·exact h
 ·rw [List.getElem?_eq_none h] at hk;cases hk):p:=h
theorem Y179 {p:Prop} (h:p:=by
 go_wp2_with fail
 exact HQ.out _ _ ff HB3.out):p:=h
theorem Y180 {p:Prop} (h:p:=by
 go_wp2_with fail
 exact HQ.out _ _ ff HB2.out):p:=h
theorem Y181 {p:Prop} (h:p:=by
 exact wp_skip' (W.setCell ⟨g,8,none⟩ (.int .i64 (max settled N))) (by unfold execOp;go_simp) ⟨_,rfl,rfl⟩):p:=h
theorem Y182 {p:Prop} (h:p:=by
 exact HR.out A' c' _ HB.out (HI.out.mono fun q _ h=>(show B<=q from Nat.le_trans (by have:=HBB.out;omega) h))):p:=h
theorem Y183 {p:Prop} (h:p:=by
 exact wp_value' (.slice (some ⟨gp,0,none⟩) 2 2) W (by unfold execOp;go_simp) ⟨_,rfl,rfl,hGW,hrefl W⟩):p:=h
theorem Y184 {p:Prop} (h:p:=by
 refine gg hfr fun t=>?_
 go_wp2_with fail
 all_goals first|exact HQ.out _ ff|(exfalso;have:=HN.out;omega)):p:=h
theorem Y185 {p:Prop} (h:p:=by
 go_wp2
 go_ret
 exact⟨none,0,rfl,⟨Rs.nil_ _ _ _ _,Nat.le_refl _,Nat.zero_le _⟩,Below.refl _ _⟩):p:=h
theorem Y186 {p:Prop} (h:p:=by
 exact wp_value' (.pointer (some ⟨lb,7,none⟩)) W (by unfold execOp;go_simp) ⟨_,rfl,rfl,hGW,hrefl W⟩):p:=h
theorem Y187 {p:Prop} (h:p:=by
 clear hk
 go_wp2_with fail
 exact HQ.out _ ⟨rfl,rfl,rfl,rfl,rfl,rfl,by rw [HD.out];rfl,trivial⟩):p:=h
theorem Y188 {p:Prop} (h:p:=by
 rcases Nat.eq_zero_or_pos n with h0|h0
 ·exact h0
 ·obtain⟨_,h,_⟩:=h.1.2 h0
  cases h):p:=h
theorem Y189 {p:Prop} (h:p:=by
 rw [hadN_all os fun i y hy=>hhad i y hy (by have:=(List.getElem?_eq_some_iff.1 hy).1;omega)]
 omega):p:=h
theorem Y190 {p:Prop} (h:p:=by
 exact⟨by rw [has_put_other hne];exact (h3 x).1,fun y=>by rw [atKey_put_other hne];exact (h3 x).2 y⟩):p:=h
theorem Y191 {p:Prop} (h:p:=by
 refine hR _ _ ?_
 unfold meetP
 rw [if_neg ht']
 exact⟨_,_,rfl,mailZ_is _ _,cmdZ_is _ _,hb3⟩):p:=h
theorem Y192 {p:Prop} (h:p:=by
 rw [Bool.and_eq_false_imp]
 intro h1
 exact decide_eq_false fun h2=>h0 ⟨of_decide_eq_true h1,h2⟩):p:=h
theorem Y193 {p:Prop} (h:p:=by
 refine ony 62 106 ?_;have:=ny 64 108
 exact vla (h:=by unfold execOp;go_simp;exact empty_eq)):p:=h
theorem Y194 {p:Prop} (h:p:=by
 refine Act.put_comm _ _ _ fun d hdn hdi=>?_
 exact h ((hd n i (by omega) (by omega) d hdn hdi).symm)):p:=h
theorem Y195 {p:Prop} (h:p:=by
 rintro x w1 ⟨rfl,rfl⟩
 exact⟨none,0,rfl,OpsIs.nil_ _ _ _ _ (Nat.zero_le _),Below.refl _ _⟩):p:=h
theorem Y196 {p:Prop} (h:p:=by
 exact fits_of (by omega) (by omega) (by omega) (by omega) (by omega) (by omega) a6 (by omega) (by omega)):p:=h
theorem Y197 {p:Prop} (h:p:=by
 exact this.mono (fun b hb hx=>hx.imp id fun hx=>⟨hx.1,hb⟩) (New.lt h.yb (by omega) (by omega))):p:=h
theorem Y198 {p:Prop} (h:p:=by
 have h1:=hv w hb
 have h2:=hv w' (hk.trans hb)
 rw [hrun] at h1
 obtain rfl:=ok_inj h1
 exact h2):p:=h
theorem Y199 {p:Prop} (h:p:=by
 obtain⟨D,⟨es,clock,h1,h2⟩,h3⟩:=h
 exact⟨D,⟨es,clock,hk.trans h1,h2⟩,h3⟩):p:=h
theorem Y200 {p:Prop} (h:p:=by
 go_wp2_with fail
 go_ret
 exact⟨ret_bool' (by rw [HRES.out];rfl),HQ.out.2.2⟩):p:=h
theorem Y201 {p:Prop} (h:p:=by
 by_cases h:data.size=0
 ·rw [bne_empty_false h];simp [h]
 ·rw [bne_empty_true h];simp [h]):p:=h
theorem Y202 {p:Prop} (h:p:=by
 have hg:=(HL.out.blk.below hsm HL.out.blk.lt)
 have d0:=hg.c1 0
 exact vl ⟨rfl,rfl⟩):p:=h
theorem Y203 {p:Prop} (h:p:=by
 exact⟨q,h1,h2,h3.below hb h3.lt⟩):p:=h
theorem Y204 {p:Prop} (h:p:=by
 rw [ho] at hoj
 injection hoj with hoj
 subst hoj
 exact up _ (hpre e he hbe)):p:=h
theorem Y205 {p:Prop} (h:p:=by
 obtain rfl:=hS.nil_ (hlim 0 10 rfl rfl)
 have d0:=HG.out.c1 8
 exact vl ⟨rfl,rfl⟩):p:=h
theorem Y206 {p:Prop} (h:p:=by
 obtain rfl:=hS.nil_ (hlim 0 10 rfl rfl)
 have d0:=HG.out.c1 3
 exact vl ⟨rfl,rfl⟩):p:=h
theorem Y207 {p:Prop} (h:p:=by
 clear hbk
 have hp2:=act_tmp hp
 have hv2:=act_tmp hv
 unfold execOp
 rw [hop]
 go_simp
 rfl):p:=h
theorem Y208 {p:Prop} (h:p:=by
 exact⟨n1,n2,((hh.far (by simp;omega) _).far (by simp;omega) _).far (by simp;omega) _⟩):p:=h
theorem Y209 {p:Prop} (h:p:=by
 unfold rowB rowHead at hrow
 simp only [Bool.and_eq_true,decide_eq_true_eq] at hrow
 omega):p:=h
theorem Y210 {p:Prop} (h:p:=by
 rcases Nat.lt_or_ge i ops.size with h|h
 ·exact h
 ·rw [Array.getElem?_eq_none h] at ho;cases ho):p:=h
theorem Y211 {p:Prop} (h:p:=by
 exact⟨⟨_,_,_,rfl⟩,Acted.idle H0.out (HB1.out.trans ((HB2.out.mono (by have:=HZ1.out;omega)).trans (HLL.out.mono (by omega)))) HB.out⟩):p:=h
theorem Y212 {p:Prop} (h:p:=by
 go_enter func49,ntmps49
 conv=>arg 2;arg 2;arg 2;arg 2;change part [1,1,1] (codeOf rshipFF)
 go_wp2_with fail
 rw [<-HW.out]
 refine HHOLD.out.mono ?_
 rintro x w2 ⟨rfl,hb12⟩
 obtain⟨w3,hw3⟩:∃ w3,w3=w2.alloc (.cells #[.int .i64 hE,.int .i64 hS'] 93):=⟨_,rfl⟩
 have hb23:Below w2 w2 w3:=by rw [hw3];exact (Below.refl _ _).alloc (Nat.le_refl _) _
 have hgr:Blk w3 w2 93 #[.int .i64 hE,.int .i64 hS']:=by rw [hw3];exact Blk.new _ _ _
 exact Y20):p:=h
theorem Y213 {p:Prop} (h:p:=by
 obtain⟨o0,o1⟩:=hb.cs 0 2
 have g0:=hg.cell 0
 rw [hg0] at g0
 have d1:decide (x.n<=(pn:Int))=true:=decide_eq_true (by omega)
 obtain⟨c0,c1,c2,c3,c4,c5,c6,c7,c8⟩:=hop
 simp only [OpC.at_] at c1
 have z1:IntKind.i64.wrap (x.n-1)=(i:Nat):=by rw [IntKind.wrap_i64];omega
 have z2:(0:Int)<=(i:Nat):=by omega
 have z3:((i:Nat):Int)<((pn:Nat):Int):=by omega
 clear c0 c2 c3 c4 c5 c6 c7 c8 hi hi2 hni
 have HQ:=J hQ
 clear hQ hg hb hg0
 exact Y28):p:=h
theorem Y214 {p:Prop} (h:p:=by
 have HR2:=J hr2
 clear hr2
 go_wp2_with fail
 go_quiet (fail)
 go_wp2_with fail
 go_roundw
 case rel=>exact⟨k+1,o.n,o.epoch,o.site,by omega,by go_num,⟨by have h1:=HN.out;have h2:=HH.out.1;omega,fun h=>absurd h (by omega),fun _=>⟨o,hck'.out,rfl,rfl,hon.2.2.1⟩⟩,hon.2.1,HR2.out,below_drewN HW1.out _⟩
 case measure=>simp [intOf];omega):p:=h
theorem Y215 {p:Prop} (h:p:=by
 have e:IntKind.i64.wrap ((j:Int)+1)=((j+1:Nat):Int):=by rw [IntKind.wrap_i64];omega
 have HQ:=J hQ
 clear hQ hj
 exact Y13):p:=h
theorem Y216 {p:Prop} (h:p:=by
 intro U vs W hS hvl hfr hch
 obtain⟨x0,x1,x2,rfl⟩:=ln3 hvl
 exact Y32):p:=h
theorem Y217 {p:Prop} (h:p:=by
 refine ih _ _ _ (by simp [hl]) hG' (fun j hj hlj=>?_) ?_
 ·unfold updU
  by_cases hji:j=i
  ·subst hji;rw [if_pos rfl];exact hv
  ·rw [if_neg hji]
   refine hmono _ _ _ _ hx (hV j hj ?_)
   exact Y56
 ·
  exact Y11):p:=h
theorem Y218 {p:Prop} (h:p:=by
 have HQ:=J hQ
 clear hQ
 exact Y13):p:=h
theorem Y219 {p:Prop} (h:p:=by
 rw [hd] at hsh
 have HC:=J hsh
 clear hsh
 refine gg hfr fun t=>?_
 go_wp2_with fail
 refine HC.out.mono ?_
 rintro e w1 ⟨rfl,hb1⟩
 have HW1:=J (HW.out.trans (hb1.mono HW.out.size))
 clear hb1
 exact Y43):p:=h
theorem Y220 {p:Prop} (h:p:=by
 have k14:=h.h5.c1 14
 have d1:decide ((j:Int)<(qn:Int))=false:=decide_eq_false (by omega)
 have d2:decide (j<qn)=false:=decide_eq_false (by omega)
 have HQ:=J hQ
 clear hQ h hj
 exact Y13):p:=h
theorem Y221 {p:Prop} (h:p:=by
 go_enter func43,ntmps43
 conv=>arg 2;arg 2;arg 2;change part [1,1] (codeOf doFF)
 exact Y9):p:=h
theorem Y222 {p:Prop} (h:p:=by
 go_wp2
 go_ret
 exact⟨rfl,rfl⟩):p:=h
theorem Y223 {p:Prop} (h:p:=by
 refine ony 62 249 ?_;have:=ny 64 251
 refine wp_enter' 100 #[.agg #[atN,atE]] (by unfold execOp;go_simp) ?_
 refine (rplace_any atN atE W).mono ?_
 exact Y59):p:=h
theorem Y224 {p:Prop} (h:p:=by
 refine ony 68 255 ?_;have:=ny 70 257
 refine wp_enter' 100 #[.agg #[whN,whE]] (by unfold execOp;go_simp) ?_
 refine (rplace_any whN whE W).mono ?_
 exact Y59):p:=h
theorem Y225 {p:Prop} (h:p:=by
 have ht2:=act_tmp (hat 2 18 kd rfl);clear hat hoff hp;rw [hv2] at ht2;have hc:=(HL.out.below hGW.1 HL.out.lt).cell 5;simp at hc
 exact Y95):p:=h
theorem Y226 {p:Prop} (h:p:=by
 have ht6:=act_tmp (hat 6 22 kd rfl);clear hat hoff hp;rw [hv6] at ht6;have hc:=(HL.out.below hGW.1 HL.out.lt).cell 6;simp at hc
 exact Y54):p:=h
theorem Y227 {p:Prop} (h:p:=by
 rw [hob] at e
 subst e
 have hr2:r=false:=by rw [HR.out];simp [rowFrom,hob]
 subst hr2
 exact Y77):p:=h
theorem Y228 {p:Prop} (h:p:=by
 intro U W hGW hV
 have hx:U 26=.bool false:=hV 26 kd
 exact Y38):p:=h
theorem Y229 {p:Prop} (h:p:=by
 intro U W hGW hV
 have h4:U 4=.int .i64 1:=hV 4 kd
 exact Y24):p:=h
theorem Y230 {p:Prop} (h:p:=by
 have hr2:r=false:=by rw [HR.out];simp [rowFrom,stepB,hk3,hE]
 subst hr2
 exact Y43):p:=h
theorem Y231 {p:Prop} (h:p:=by
 have ht18:=act_tmp (hat 18 34 kd rfl);clear hat hoff hp;rw [hv16] at ht16;rw [hv18] at ht18
 exact Y75):p:=h
theorem Y232 {p:Prop} (h:p:=by
 obtain⟨HR,HQ⟩:=J2 hR hq
 clear hR hq
 exact Y69):p:=h
theorem Y233 {p:Prop} (h:p:=by
 refine gg hfr fun t=>?_
 go_wp2_with fail
 refine (reigned_any _ _ _).mono ?_
 exact Y113):p:=h
theorem Y234 {p:Prop} (h:p:=by
 have k8:=hb.cell 8
 have f8:=hb.frozen 8
 simp at k8
 have HQ:=J hQ
 clear hQ hb
 exact Y13):p:=h
theorem Y235 {p:Prop} (h:p:=by
 have hr2:r=false:=by rw [HR.out];simp [rowFrom,hNn]
 subst hr2
 exact Y77):p:=h
theorem Y236 {p:Prop} (h:p:=by
 clear h0 h hgb hos hpn hlive hlast hw1 hz1 hb1 h5 h8 hg1 ho1 hB c1 c2 hhold q
 exact Y221):p:=h
end Go.Proofs.Ytaipgdhdfpemcaa
