/- THE WALKS OF THE LANE, part 1. -/
import Derived.ArgAppend
import Derived.Below
import Derived.BigQuiet
import Derived.ChangeOld
import Derived.ChangeSame
import Derived.Deep.AppendLies
import Derived.Deep.DeepCutAuto
import Derived.Deep.Draws
import Derived.Deep.Fields
import Derived.Deep.MidRow
import Derived.Deep.OwnRows
import Derived.Deep.QuietTactic
import Derived.Deep.Slices
import Derived.IntWalk
import Derived.Laws.OwnMore
import Derived.Laws.Rows
import Derived.Lib.Hide
import Derived.Lib.SliceRun
import Derived.Maps.AppendAt
import Derived.Maps.OwnSet
import Derived.Maps.Views
import Derived.Orders
import Derived.OwnWalk
import Derived.ProofKit
import Derived.RegionTactic
import Derived.Says
import Derived.SizedLaws
import Derived.SliceStrings
import Derived.StillTailTactics
import Derived.StringKeys
import Derived.Tactics2
import Derived.WalkKit
import Derived.WalkLawsBesides
import Derived.WalkSpells
import Derived.WideMake
import Derived.WideShapes
namespace Go.Proofs.Ytaipgdhdfpemcaa
set_option linter.all false
open Go.RowKit
set_option maxRecDepth 100000
set_option maxHeartbeats 4000000
abbrev Z:=Exit->Act->World->Prop
abbrev O:=Option Addr
instance:Coe Nat Value:=⟨fun b=>.pointer (some ⟨b,0,none⟩)⟩
instance:Coe Int Value:=⟨fun z=>.int .i64 z⟩
instance:Coe Bool Value:=⟨fun b=>.bool b⟩
instance:Coe World Nat:=⟨fun w=>w.heap.size⟩
theorem kd {p:Prop} [Decidable p] (h:decide p=true:=by kernel_rfl):p:=of_decide_eq_true h
theorem kr {α:Type} {x y:α} (h:x=y:=by kernel_rfl):x=y:=h
theorem ff {p:Prop} (h:p:=by (repeat' first|exact rfl|exact trivial|apply And.intro);done):p:=h
section
variable {a b c d e f g h i:Prop}
theorem J (x:a):Hid a:=x
theorem J2 (x:a) (y:b):Hid a/\Hid b:=⟨x,y⟩
theorem J3 (x:a) (y:b) (z:c):Hid a/\Hid b/\Hid c:=⟨x,y,z⟩
theorem J4 (x:a) (y:b) (z:c) (u:d):Hid a/\Hid b/\Hid c/\Hid d:=⟨x,y,z,u⟩
theorem J5 (x:a) (y:b) (z:c) (u:d) (v:e):Hid a/\Hid b/\Hid c/\Hid d/\Hid e:=⟨x,y,z,u,v⟩
theorem J6 (x:a) (y:b) (z:c) (u:d) (v:e) (r:f):Hid a/\Hid b/\Hid c/\Hid d/\Hid e/\Hid f:=⟨x,y,z,u,v,r⟩
theorem J7 (x:a) (y:b) (z:c) (u:d) (v:e) (r:f) (s:g):Hid a/\Hid b/\Hid c/\Hid d/\Hid e/\Hid f/\Hid g:=⟨x,y,z,u,v,r,s⟩
theorem J8 (x:a) (y:b) (z:c) (u:d) (v:e) (r:f) (s:g) (t:h):Hid a/\Hid b/\Hid c/\Hid d/\Hid e/\Hid f/\Hid g/\Hid h:=⟨x,y,z,u,v,r,s,t⟩
theorem J9 (x:a) (y:b) (z:c) (u:d) (v:e) (r:f) (s:g) (t:h) (k:i):Hid a/\Hid b/\Hid c/\Hid d/\Hid e/\Hid f/\Hid g/\Hid h/\Hid i:=⟨x,y,z,u,v,r,s,t,k⟩
end
theorem Y1 {p:Prop} (h:p:=by
 have hl:=hss.len
 have ho:=HO.out c (List.mem_of_getElem? hck)
 have hz2:hn'*16<=140737488351232:=by have:=ho.hs;omega
 have htk:cs.take (k+1)=cs.take k++[c]:=by rw [List.take_add_one,hck];rfl
 have HTK:=J htk
 obtain⟨k0,k1,k2,k3,k4,k5,k6,k7,k8⟩:=hop
 simp only [OpC.at_] at k0 k1 k2 k3 k4 k5 k6 k7 k8
 obtain⟨x1,x2,x3,x4,x5,x6,x7,x8,x9⟩:=c
 simp only at k0 k1 k2 k3 k4 k5 k6 k7 k8 hss
 have HS:=J hss
 clear hck hss hl ho htk
 have hbx:Blk (wr.alloc (.cells #[.int .i64 x1,.int .i64 x2,.int .i64 x3,.int .i64 x4,.int .i64 x5,.int .i64 x6,.string x7,.int .i64 x8,.slice hA hn' hc] 45)) wr.heap.size 45 #[.int .i64 x1,.int .i64 x2,.int .i64 x3,.int .i64 x4,.int .i64 x5,.int .i64 x6,.string x7,.int .i64 x8,.slice hA hn' hc]:=Blk.new _ _ _
 have HBX:=J hbx
 have hb0:Below wr wr (wr.alloc (.cells #[.int .i64 x1,.int .i64 x2,.int .i64 x3,.int .i64 x4,.int .i64 x5,.int .i64 x6,.string x7,.int .i64 x8,.slice hA hn' hc] 45)):=(Below.refl _ _).alloc (Nat.le_refl _) _
 have HB0:=J hb0
 clear hbx hb0
 obtain⟨W1,hW1⟩:∃ W1,W1=wr.alloc (.cells #[.int .i64 x1,.int .i64 x2,.int .i64 x3,.int .i64 x4,.int .i64 x5,.int .i64 x6,.string x7,.int .i64 x8,.slice hA hn' hc] 45):=⟨_,rfl⟩
 have hsz:W1.heap.size=wr.heap.size+1:=by rw [hW1];simp
 have hem:=own_empty (wr.alloc (.cells #[.int .i64 x1,.int .i64 x2,.int .i64 x3,.int .i64 x4,.int .i64 x5,.int .i64 x6,.string x7,.int .i64 x8,.slice hA hn' hc] 45)) 9 1
 have es:(wr.alloc (.cells #[.int .i64 x1,.int .i64 x2,.int .i64 x3,.int .i64 x4,.int .i64 x5,.int .i64 x6,.string x7,.int .i64 x8,.slice hA hn' hc] 45)).heap.size=wr.heap.size+1:=by simp
 rw [es] at hem
 have HEM:=J hem
 clear hem es hW1 hsz W1
 go_wp2_with (at_builtin;refine wpList_append_any _ rfl (.tmp 16) (.tmp 19) _ rfl (wr.heap.size+1) 9 j0 _ 1 16 underlying24 HJ.out HY0.out HY1.out HY2.out rfl (by omega) (.slice (some ⟨wr.heap.size+1,0,none⟩) 0 0) 0 [] rfl HEM.out wr.heap.size hA hn' hc (strV x9) rfl (((HS.out.1.reads.below HB0.out)).alloc (by simp) _) (strV_one x9) ?c1 ?c2 ?c3 ?_)
 case c1=>unfold maxLen;omega
 case c2=>omega
 case c3=>simp
 intro v1 w2 hown1 hg1 hat1
 try simp only [Nat.zero_add,List.nil_append] at hown1
 obtain⟨g1,c1,cur1,rfl,hc1,hcm1,hge1,_,hrd1⟩:=own_blk hown1 hat1
 have hbk2:=(HBX.out.alloc (.cells #[] 9)).grown hg1 (by simp [Value.ownBlock])
 have d0:=hbk2.cell 0
 have d1:=hbk2.cell 1
 have d2:=hbk2.cell 2
 have d3:=hbk2.cell 3
 have d4:=hbk2.cell 4
 have d5:=hbk2.cell 5
 have d6:=hbk2.cell 6
 have d7:=hbk2.cell 7
 have d8:=hbk2.cell 8
 have f8:=hbk2.frozen 8
 simp at d0 d1 d2 d3 d4 d5 d6 d7 d8
 obtain⟨HG1,HRD1⟩:=J2 hg1 hrd1
 have hs2:wr.heap.size+2<=w2:=by have:=hg1.size;simpa using this
 have hown2:w2.ownsRow w.heap.size 45 9 u3 k (opsV os):=((HW.out.alloc _).alloc _).kept hg1 (by
  rcases hv:u3.ownBlock with _|b
  ·exact .inl rfl
  ·refine .inr fun e=>?_
   have:=(HW.out.lt b hv).2
   simp [Value.ownBlock] at e
   omega)
 have hown3:=hown2.kept (grown_set w2 ⟨wr.heap.size,8,none⟩ (.slice (some ⟨g1,0,none⟩) hn' c1)) (by
  rcases hv:u3.ownBlock with _|b
  ·exact .inl rfl
  ·refine .inr fun e=>?_
   have:=(HW.out.lt b hv).2
   simp at e
   omega)
 have HW3:=J hown3
 have hnb:Blk ((w2.setCell ⟨wr.heap.size,8,none⟩ (.slice (some ⟨g1,0,none⟩) hn' c1)).alloc (.cells #[.int .i64 x1,.int .i64 x2,.int .i64 x3,.int .i64 x4,.int .i64 x5,.int .i64 x6,.string x7,.int .i64 x8,.slice (some ⟨g1,0,none⟩) hn' c1] 45)) w2.heap.size 45 #[.int .i64 x1,.int .i64 x2,.int .i64 x3,.int .i64 x4,.int .i64 x5,.int .i64 x6,.string x7,.int .i64 x8,.slice (some ⟨g1,0,none⟩) hn' c1]:=by
  have:=Blk.new (w2.setCell ⟨wr.heap.size,8,none⟩ (.slice (some ⟨g1,0,none⟩) hn' c1)) 45 #[.int .i64 x1,.int .i64 x2,.int .i64 x3,.int .i64 x4,.int .i64 x5,.int .i64 x6,.string x7,.int .i64 x8,.slice (some ⟨g1,0,none⟩) hn' c1]
  rwa [setCell_size] at this
 have HNB:=J hnb
 clear hown1 hg1 hat1 hrd1 hbk2 hown2 hown3 hnb
 go_wp2_with (at_builtin;refine wpList_append_any _ rfl (.tmp 23) (.tmp 25) _ rfl w.heap.size 45 i0 _ 9 96 underlying28 HI.out HZ0.out HZ1.out HZ2.out rfl (by omega) u3 k (opsV os) rfl (HW3.out.alloc _) _ (some ⟨w2.heap.size,0,none⟩) 1 1 (opsV [OpC.at_ ⟨x1,x2,x3,x4,x5,x6,x7,x8,x9⟩ (some ⟨g1,0,none⟩) hn' c1]) rfl (HNB.out.reads (n:=1) (size:=9) rfl) (opsV_one _) ?d1 ?d2 ?d3 ?_)
 case d1=>unfold maxLen;omega
 case d2=>omega
 case d3=>have:=HB.out.size;simp;omega
 intro v2 w5 hown5 hg5 hat5
 have hat6:v2.ownBlock=u3.ownBlock\/v2.ownBlock=some (w2.heap.size+1):=by simpa using hat5
 obtain⟨e1,e3⟩:=own_round (c:=⟨x1,x2,x3,x4,x5,x6,x7,x8,x9⟩) HB.out HV.out HW.out _ _ HG1.out g1 c1 hge1 HRD1.out ⟨hc1,hcm1⟩ _ _ _ hg5 hat6
 obtain⟨E1,E3,E4⟩:=J3 e1 e3 hown5
 clear e1 e3 hown5 hg5 hat5 hat6
 go_wp2
 go_roundw
 case rel=>exact⟨k+1,os++[OpC.at_ ⟨x1,x2,x3,x4,x5,x6,x7,x8,x9⟩ (some ⟨g1,0,none⟩) hn' c1],by omega,by go_num,by rw [opsV_append];exact E4.out,by rw [HTK.out];exact E1.out,E3.out⟩
 case measure=>simp [intOf];omega):p:=h
theorem Y2 {p:Prop} (h:p:=by
 go_wp2_with fail
 refine (cloneOps_some ad n c ds w HR.out hn).mono ?_
 rintro x w1 ⟨g,c',cur,rfl,hc1,hcm,hg,hbk,hrd,hb⟩
 obtain⟨HB,HK,HD,HCM⟩:=J4 hb hbk hrd hcm
 clear hb hbk hrd hcm
 go_wp2_with fail
 go_loopw [9] (fun i wr=>∃ (k:Nat) (cu:Array Value) (pre post:List Opd),k<=n/\i=.int .i64 k/\pre.length=k/\(pre++post).length=n/\Blk wr g 45 cu/\Reads wr wr.heap.size 9 (some ⟨g,0,none⟩) n (opsV (pre++post))/\OpsV wr (Off w.heap.size (some g)) pre (cs.take k)/\OpsV wr (fun b=>b<w) post (cs.drop k)/\Below w w wr) (fun i _=>n-(intOf i).toNat)
 case atStart=>exact⟨0,cur,[],ds,by omega,rfl,rfl,by have:=HDL.out;have:=HL.out;simp;omega,HK.out,HD.out,by simp [OpsV],HV.out.kept ⟨HB.out.size,fun b hb _=>HB.out.block b hb⟩,HB.out⟩
 case round=>
  obtain⟨k,cu,pre,post,hk,rfl,hpl,htl,hbk,hrd,hov,hop,hb⟩:=hrel
  rcases Nat.lt_or_ge k n with hk1|hk1
  ·obtain ⟨o, post', rfl⟩ : ∃ o post', post = o :: post' := by
    cases post with
    | nil=>simp at htl;omega
    | cons o p=>exact⟨o,p,rfl⟩
   obtain⟨cc,cs',hcs,⟨hA,hn',hc,rfl,hss⟩,hop'⟩:=hop.split
   have hck:cs[k]? = some cc:=by
    have:=congrArg (fun l:List OpC=>l[0]?) hcs
    simpa using this
   have hdrop:cs.drop (k+1)=cs':=by
    have:=congrArg (fun l:List OpC=>l.drop 1) hcs
    simpa [List.drop_drop,Nat.add_comm] using this
   have htake:cs.take (k+1)=cs.take k++[cc]:=by rw [List.take_add_one,hck];rfl
   have hz:=(HO.out cc (List.mem_of_getElem? hck)).hs
   have hsl:=hss.len
   have hxl:(opsV (pre++cc.at_ hA hn' hc::post')).length=n*9:=hrd.1
   obtain⟨ad2,ea,_,hcell⟩:=hrd.2 (by omega)
   injection ea with ea
   subst ea
   have hcell8:wr.cell? ⟨g,k*9+7+1,none⟩=some (.slice hA hn' hc):=by
    have h1:=hcell (k*9+8) (.slice hA hn' hc) (by
     rw [opsV_append,List.getElem?_append_right (by rw [opsV_len];omega),opsV_len,hpl,show k*9+8-k*9=8 by omega,opsV_cons]
     simp [Opd.cells,OpC.at_])
    have e:(⟨g,0,none⟩:Addr).add (k*9+8)=⟨g,k*9+7+1,none⟩:=by unfold Addr.add;rw [if_neg (by omega)];simp
    rwa [e] at h1
   obtain⟨HT,HDR,HPL,HTL,HBK,HRD,HOV,HOP,HBW⟩:=J9 htake hdrop hpl htl hbk hrd hov hop' hb
   have HSS:=J hss
   clear htake hdrop hpl htl hbk hrd hov hop hop' hb hcell hck hcs hxl
   go_wp2_with fail
   refine (cloneStr_any wr HSS.out (by omega)).mono ?_
   rintro x w3 ⟨A3,c3,rfl,h3,hb3⟩
   have hbk3:=HBK.out.below hb3 HBK.out.lt
   have f8:=hbk3.frozen (k*9+7+1)
   have d8:w3.cell? ⟨g,k*9+7+1,none⟩=some (.slice hA hn' hc):=(hb3.cell (p:=⟨g,k*9+7+1,none⟩) HBK.out.lt).trans hcell8
   obtain⟨HK3,H3,HB3⟩:=J3 hbk3 h3 hb3
   clear hcell8 hbk3 h3 hb3
   go_wp2
   go_roundw
   case rel=>
    have hset:=(((HRD.out.below HB3.out).more HB3.out.size).set_ (k*9+8) (.slice A3 hn' c3) (by have:=HRD.out.1;omega) (by omega))
    have e:(⟨g,0,none⟩:Addr).add (k*9+8)=⟨g,k*9+7+1,none⟩:=by unfold Addr.add;rw [if_neg (by omega)];simp
    have hpl:=HPL.out
    rw [e,<-hpl,opsV_set,hpl] at hset
    have hk3:Kept (Off w.heap.size (some g)) wr (w3.setCell ⟨g,k*9+7+1,none⟩ (.slice A3 hn' c3)):=(Kept.of _ HB3.out).set_ ⟨g,k*9+7+1,none⟩ (.inl fun h=>h.2 rfl) _
    have hk4:Kept (fun b=>b<w) wr (w3.setCell ⟨g,k*9+7+1,none⟩ (.slice A3 hn' c3)):=(Kept.of _ HB3.out).set_ ⟨g,k*9+7+1,none⟩ (.inl (by show ¬ g<w;omega)) _
    have hgl:=HBK.out.lt
    have hwr:=HBW.out.size
    have hnew:StrIs (w3.setCell ⟨g,k*9+7+1,none⟩ (.slice A3 hn' c3)) (Off w.heap.size (some g)) A3 hn' c3 cc.hs:=
     (H3.out.kept ((Kept.refl _ _).set_ ⟨g,k*9+7+1,none⟩ (.inl (by show ¬ wr.heap.size<=g;omega)) _)).mono fun b _ h=>⟨by have:wr.heap.size<=b:=h;omega,fun e=>by injection e with e;have:wr.heap.size<=b:=h;omega⟩
    refine⟨k+1,cu.setIfInBounds (k*9+7+1) (.slice A3 hn' c3),pre++[cc.at_ A3 hn' c3],post',by omega,by go_num,by simp [hpl],by have:=HTL.out;simp at this ⊢;omega,HK3.out.set_ _ _,?_,?_,?_,?_⟩
    ·have e2:(w3.setCell ⟨g,k*9+7+1,none⟩ (.slice A3 hn' c3)).heap.size=w3.heap.size:=by simp
     rw [e2,List.append_assoc]
     exact hset
    ·rw [HT.out]
     exact (HOV.out.kept hk3).snoc ⟨A3,hn',c3,rfl,hnew⟩
    ·rw [HDR.out]
     exact HOP.out.kept hk4
    ·exact (HBW.out.trans (HB3.out.mono HBW.out.size)).setCell (p:=⟨g,_,none⟩) hg _
   case measure=>simp [intOf];omega
  ·obtain rfl:n=k:=by omega
   have hp0:post=[]:=by
    apply List.eq_nil_of_length_eq_zero
    simp at htl
    omega
   subst hp0
   rw [List.append_nil] at hrd
   rw [List.take_of_length_le (by rw [HL.out];exact Nat.le_refl _)] at hov
   obtain⟨HRD,HOV,HBW⟩:=J3 hrd hov hb
   clear hbk hrd hov hop hb
   go_wp2
   go_ret
   exact⟨_,c',rfl,⟨pre,Rs.of HRD.out fun _ ad e=>by injection e with e;subst e;exact hg,HOV.out.mono fun b _ h=>h.1,hc1,HCM.out⟩,HBW.out⟩):p:=h
theorem Y3 {p:Prop} (h:p:=by
 intro i o F U W ho hGW hat hoff hp
 have hrefl:=fun W:World=>Below.refl W.heap.size W
 have:=ot 0 (.slice (some ad) n cap)
 have:=ot 6 (.pointer (some ⟨w.heap.size,0,none⟩))
 obtain⟨qa,qb⟩:=J2 hat hp
 clear hat hoff hp
 match i with
  | 0=>
   cases ho;refine on_ (wanted_none rfl) ?_;obtain⟨c0,c1⟩:=hGW.2.cs 0 2
   exact wp_value' (.agg #[.int .i64 ((k:Int)+1),E]) W (by unfold execOp;go_simp) ⟨_,rfl,rfl,hGW,hrefl W⟩
  | 1=>cases ho;exact vno
  | 2=>
   cases ho;have:=tx 0 13;have:=tx 1 14
   exact vna (h:=by unfold execOp;go_simp;(by_cases q1:((k:Int)+1)=0<;>by_cases q2:E=0<;>first|omega|simp_all))
  | 3=>cases ho;have:=tx 2 15;exact vna
  | 4=>cases ho;refine onv 3 16 ?_;exact vlo
  | 5=>
   cases ho;refine onv 3 16 ?_;have:=tx 4 17;have c0:=hGW.2.c1 0
   exact wp_value' (.int .i64 ((k:Int)+1)) W (by unfold execOp;go_simp) ⟨_,rfl,rfl,hGW,hrefl W⟩
  | 6=>cases ho;refine onv 3 16 ?_;have:=tx 5 18;exact vlo
  | 7=>cases ho;refine onv 3 16 ?_;have:=tx 6 19;exact vla
  | 8=>cases ho;refine onv 7 20 ?_;exact vlo
  | 9=>
   cases ho;refine onv 7 20 ?_;have:=tx 8 21;have c0:=hGW.2.c1 0
   exact wp_value' (.int .i64 ((k:Int)+1)) W (by unfold execOp;go_simp) ⟨_,rfl,rfl,hGW,hrefl W⟩
  | 10=>cases ho;refine onv 7 20 ?_;exact vla
  | 11=>cases ho;refine onv 7 20 ?_;have:=tx 10 23;exact vlo
  | 12=>cases ho;refine onv 7 20 ?_;have:=tx 9 22;have:=tx 11 24;exact vlo
  | 13=>cases ho;refine onv 3 16 ?_;have:=tx 7 20;have:=tx 12 25;exact vlo
  | 14=>cases ho;refine onv 3 16 ?_;have:=tx 13 26;exact vla
  | 15=>cases ho;refine onv 14 27 ?_;exact vla
  | 16=>cases ho;refine onv 14 27 ?_;exact vlo
  | 17=>
   cases ho;refine onv 14 27 ?_;have:=tx 16 29;have c0:=hGW.2.c1 0
   exact wp_value' (.int .i64 ((k:Int)+1)) W (by unfold execOp;go_simp) ⟨_,rfl,rfl,hGW,hrefl W⟩
  | 18=>cases ho;refine onv 14 27 ?_;have:=tx 17 30;exact vlo
  | 19=>cases ho;refine onv 14 27 ?_;have:=tx 15 28;have:=tx 18 31;exact vlo
  | 20=>
   cases ho;refine onv 14 27 ?_;have:=tx 19 32;obtain⟨k0,k1,k2,k3,k4,k5,k6,k7,k8⟩:=HP.out.below hGW.1 HAB.out
   exact wp_value' (.agg #[.int .i64 x1,.int .i64 x2,.int .i64 x3,.int .i64 x4,.int .i64 x5,.int .i64 x6,.string x7,.int .i64 x8,.slice hA hn hc]) W (by unfold execOp;go_simp) ⟨_,rfl,rfl,hGW,hrefl W⟩
  | 21=>
   cases ho;refine onv 14 27 ?_;have:=tx 20 33
   refine wp_enter' 59 #[.agg #[.int .i64 x1,.int .i64 x2,.int .i64 x3,.int .i64 x4,.int .i64 x5,.int .i64 x6,.string x7,.int .i64 x8,.slice hA hn hc]] (by unfold execOp;go_simp) ?_
   refine (spot_any x1 x2 x3 x4 x5 x6 x7 x8 (.slice hA hn hc) W).mono ?_
   rintro e W' ⟨rfl,hb⟩
   exact⟨_,rfl,_,rfl,rfl,⟨hGW.1.trans (hb.mono hGW.1.size),hGW.2.below hb hGW.2.lt⟩,hb⟩
  | 22=>
   cases ho;refine onv 14 27 ?_;obtain⟨c0,c1⟩:=hGW.2.cs 0 2
   exact wp_value' (.agg #[.int .i64 ((k:Int)+1),E]) W (by unfold execOp;go_simp) ⟨_,rfl,rfl,hGW,hrefl W⟩
  | 23=>
   cases ho;refine onv 14 27 ?_;have:=tx 21 34;have:=tx 22 35
   exact vla (h:=by unfold execOp;go_simp;all_goals (by_cases q1:x1=(k:Int)+1<;>by_cases q2:x2=E<;>first|omega|simp_all))
  | 24=>cases ho;refine onv 3 16 ?_;have:=tx 14 27;have:=tx 23 36;exact vlo
  | 25=>cases ho;have:=tx 3 16;have:=tx 24 37;exact vno
  | i+26=>exact absurd ho (by simp)):p:=h
theorem Y4 {p:Prop} (h:p:=by
 have h0:=h
 have hu:=usedF_fits os h.rows.fits
 have hlen:=h.rows.len
 obtain⟨m1,m2,pA,pn,pc,lA,ln,lc,settled,hgb,hos,hlive,hlast⟩:=h.open_
 have hpn:=hos.len
 have hgl:=hgb.lt
 have hg1:=hgb.below hb1 hgl
 obtain⟨H8,HB1,HZ1,H0⟩:=J4 h8 hb1 hz1 h0
 have H1:=J (h0.below hb1)
 obtain⟨HB,HPN,HS,HOP⟩:=J4 hB hpn hs hop
 have z1:IntKind.i64.wrap (usedF os+o.size)=usedF os+o.size:=by rw [IntKind.wrap_i64];omega
 have HL:=J hl
 have d9:decide ((64:Int)<=(pn:Int))=false:=decide_eq_false (by omega)
 have g1:=hg1.c1 1
 have g5:=hg1.c1 5
 obtain⟨g9,g10⟩:=hg1.cs 9 2
 obtain⟨k1,k2⟩:=h5.cs 1 2
 obtain⟨o0,o1,o2,o3,o4,o5,o6,o7,o8⟩:=hbo.cs 0 9
 clear h0 h hgb hos hpn hlive hlast hz1 hb1 h5 h8 hg1 hB hbo hs hsz hop hu hlen hl
 refine gg hfr fun t=>?_
 go_wp2_with fail
 go_quiet (fail)
 go_wp2_with fail
 go_quiet (fail)
 go_wp2_with fail
 have hBw:=HB.out
 have hzz:=HZ1.out
 have hqq:=HB1.out.size
 refine (put_led (S:=S) (o:=o) (A:=hA) (n:=hn) (c:=hc) epoch site (H1.out.below (below_drewN (Below.refl _ _) _)) (HS.out.below (below_drewN (Below.refl _ _) _)) (by have:=HL.out;omega) (HOP.out (by have:=HL.out;omega)) (by show B<=w1;omega)).mono ?_
 rintro x w2 ⟨rfl,ha⟩
 have h82:Blk w2 (w.heap.size+1) 50 #[.int .i64 0,.int .i64 0,.int .i64 0]:=(ha.2.1.2 (w.heap.size+1) (fun hy=>by have:=(H0.out.1 _ hy).2;omega) (by show w.heap.size+1<w1;omega)).trans H8.out
 have HA:=J ha
 dsimp only
 obtain⟨W,HWW,z0,z1,z2,HKK,HLL,y0,y1,y2,f0⟩:=de h82 0 ((os.length:Int)+1) epoch
 clear ha hBw hzz hqq
 clear h82
 go_wp2
 rw [<-HWW.out]
 refine dr 0 ((os.length:Int)+1) epoch ?_
 exact⟨⟨_,_,_,rfl⟩,Acted.boxed H0.out.1 HB.out (below_drewN HB1.out _) HA.out ⟨by omega,by have:=HZ1.out;show w.heap.size+1<w1;omega⟩ HKK.out HLL.out⟩):p:=h
theorem Y5 {p:Prop} (h:p:=by
 have hall:∀ i,i<ops.size->l.getD i false=true:=fun i hi=>by
  cases hb:l.getD i false with
  | true=>rfl
  | false=>
   have:i∈(List.range ops.size).filter fun i=>!l.getD i false:=List.mem_filter.2 ⟨List.mem_range.2 hi,by rw [hb];rfl⟩
   rw [List.eq_nil_of_length_eq_zero (Nat.le_zero.1 hf)] at this
   cases this
 refine⟨?_,hend U W hGW fun i hi=>hV i hi (hall i hi)⟩
 apply List.eq_nil_iff_forall_not_mem.2
 intro i hi
 obtain⟨o,ho,hln,_⟩:=ready_spec hi
 have hio:i<ops.size:=by
  rcases Nat.lt_or_ge i ops.size with h|h
  ·exact h
  ·rw [Array.getElem?_eq_none h] at ho;cases ho
 have:=hall i hio
 have hil:i<l.size:=by omega
 simp [Array.getD,hil] at this hln
 rw [this] at hln
 cases hln):p:=h
theorem Y6 {p:Prop} (h:p:=by
 have h0:=h
 have hu:=usedF_fits os h.rows.fits
 have hlen:=h.rows.len
 obtain⟨m1,m2,pA,pn,pc,lA,ln,lc,settled,hgb,hos,hlive,hlast⟩:=h.open_
 have hpn:=hos.len
 have hgl:=hgb.lt
 have hg1:=hgb.below hb1 hgl
 obtain⟨H8,HB1,HZ1,H0⟩:=J4 h8 hb1 hz1 h0
 have H1:=J (h0.below hb1)
 obtain⟨HB,HPN,HS,HOP⟩:=J4 hB hpn hs hop
 have z1:IntKind.i64.wrap (usedF os+o.size)=usedF os+o.size:=by rw [IntKind.wrap_i64];omega
 have d9:decide ((64:Int)<=(pn:Int))=true:=decide_eq_true (by omega)
 have g1:=hg1.c1 1
 have g5:=hg1.c1 5
 obtain⟨g9,g10⟩:=hg1.cs 9 2
 obtain⟨k1,k2⟩:=h5.cs 1 2
 obtain⟨o0,o1,o2,o3,o4,o5,o6,o7,o8⟩:=hbo.cs 0 9
 clear h0 h hgb hos hpn hlive hlast hz1 hb1 h5 h8 hg1 hB hbo hs hsz hop hu hlen hl
 refine gg hfr fun t=>?_
 go_wp2_with fail
 go_quiet (fail)
 go_wp2_with fail
 go_quiet (fail)
 go_wp2_with fail
 refine (failed_any _ _).mono ?_
 rintro x w2 ⟨rfl,hb2⟩
 have hb2':Below w1 w1 w2:=⟨hb2.os,hb2.tape,hb2.output,hb2.size,hb2.block⟩
 have h82:=H8.out.below hb2' H8.out.lt
 obtain⟨W,hW,z0,z1,z2,hk,hl⟩:=done_end h82 rfl (.int .i64 125) (.int .i64 0) (.int .i64 0)
 obtain⟨y0,y1,y2⟩:=h82.cs 0 3
 have f0:=h82.frozen
 obtain⟨HWW,HKK,HLL,HB2⟩:=J4 hW hk hl hb2'
 clear hb2 hb2'
 clear h82 hk hl hW
 go_wp2
 rw [<-HWW.out]
 refine dr 125 0 0 ?_
 exact⟨⟨_,_,_,rfl⟩,Acted.idle H0.out (HB1.out.trans ((HB2.out.mono (by have:=HZ1.out;omega)).trans (HLL.out.mono (by omega)))) HB.out⟩):p:=h
theorem Y7 {p:Prop} (h:p:=by
 exact wp_value' (.pointer (some ⟨lb,0,none⟩)) W (by unfold execOp;go_simp) ⟨_,rfl,rfl,hGW,hrefl W⟩):p:=h
theorem Y8 {p:Prop} (h:p:=by
 have hlt:((List.range ops.size).filter fun j=>!(l.setIfInBounds i true).getD j false).length<((List.range ops.size).filter fun j=>!l.getD j false).length:=by
  refine filter_lt (x:=i) (by simp [hio]) (by simp [hlf]) (by simp [Array.getD,hil]) fun j hj hh=>?_
  have hjl:j<l.size:=by have:=List.mem_range.1 hj;omega
  by_cases hij:i=j
  ·subst hij;simpa using hlf
  ·simp [Array.getD,hjl,hij] at hh ⊢
   exact hh
 omega):p:=h
theorem Y9 {p:Prop} (h:p:=by
 go_wp2_with fail
 rw [<-HW.out]
 go_quiet (fail)
 go_wp2_with fail
 refine (failed_any _ _).mono ?_
 rintro x w2 ⟨rfl,hb2⟩
 have hb2':Below w1 w1 w2:=⟨hb2.os,hb2.tape,hb2.output,hb2.size,hb2.block⟩
 have h82:=H8.out.below hb2' H8.out.lt
 obtain⟨W,hW,z0,z1,z2,hk,hl⟩:=done_end h82 rfl (.int .i64 120) (.int .i64 0) (.int .i64 0)
 obtain⟨y0,y1,y2⟩:=h82.cs 0 3
 have f0:=h82.frozen
 obtain⟨HWW,HKK,HLL,HB2⟩:=J4 hW hk hl hb2'
 clear hb2 hb2'
 clear h82 hk hl hW
 go_wp2
 rw [<-HWW.out]
 refine dr 120 0 0 ?_
 exact⟨⟨_,_,_,rfl⟩,Acted.idle H0.out (HB1.out.trans ((HB2.out.mono (by have:=HZ1.out;omega)).trans (HLL.out.mono (by omega)))) HB.out⟩):p:=h
theorem Y10 {p:Prop} (h:p:=by
 clear h0 h hgb hos hpn hlive hlast hw1 hz1 hb1 h5 h8 hg1 ho1 hB h52 h82 hg2 hb2 hw2 hhold haf
 go_enter func46,ntmps46
 conv=>arg 2;arg 2;arg 2;arg 2;change part [1,1,1] (codeOf markLF)
 go_wp2_with fail
 rw [<-HW.out]
 try go_wp2_with fail
 rw [<-HW2.out]
 go_quiet (fail)
 go_wp2_with fail
 refine (failed_any _ _).mono ?_
 rintro x w3 ⟨rfl,hb2⟩
 have hb2':Below w2 w2 w3:=⟨hb2.os,hb2.tape,hb2.output,hb2.size,hb2.block⟩
 have h82:=G8.out.below hb2' G8.out.lt
 obtain⟨W,hW,z0,z1,z2,hk,hl⟩:=done_end h82 rfl (.int .i64 120) (.int .i64 0) (.int .i64 0)
 obtain⟨y0,y1,y2⟩:=h82.cs 0 3
 have f0:=h82.frozen
 obtain⟨HWW,HKK,HLL,HB2⟩:=J4 hW hk hl hb2'
 clear hb2 hb2'
 clear h82 hk hl hW
 go_wp2
 rw [<-HWW.out]
 refine dr 120 0 0 ?_
 exact⟨⟨_,_,_,rfl⟩,Acted.idle H0.out (GB1.out.trans ((HB2.out.mono (by have:=GZ1.out;omega)).trans (HLL.out.mono (by omega)))) HB.out⟩):p:=h
theorem Y11 {p:Prop} (h:p:=by
 cases ho
 have eg:F.eval (.tmp 84)=.bool false:=(hat 5 84 kd rfl).trans (hp ⟨5,.guard⟩ (by simp) rfl:U 5=.bool false)
 exact off_ (W:=W) ((wanted_by rfl rfl eg).trans rfl) rfl):p:=h
theorem Y12 {p:Prop} (h:p:=by
 cases ho;refine on_ (wanted_none rfl) ?_
 have e79:F.eval (.tmp 79)=.slice A n cap:=(hat 0 79 kd rfl).trans (hp ⟨0,.data⟩ (by simp) rfl:U 0=.slice A n cap)
 have t79:=act_tmp e79;have e82:=hat 3 82 kd rfl
 have v82:=hp ⟨3,.data⟩ (by simp) rfl
 clear hat hoff hp;obtain⟨g,hg,hgb,hge⟩:=v82;rw [hg] at e82;have t82:=act_tmp e82
 refine wp_enter' 54 #[.slice A n cap,.slice (some ⟨g,0,none⟩) 1 1] (by unfold execOp;go_simp) ?_
 refine (has_any os W hGW.1.ops hn hgb).mono ?_
 rintro e W' ⟨rfl,hb⟩
 rw [HH.out];exact⟨_,rfl,_,rfl,rfl,⟨hGW.1.below hb,hGW.2.trans (hb.mono hGW.2.size)⟩,hb⟩):p:=h
theorem Y13 {p:Prop} (h:p:=by
 obtain⟨ad2,ea,_,hcell⟩:=hrd.2 hpos
 injection ea with ea
 subst ea
 have e9:(⟨g,0,none⟩:Addr).add (k*9)=⟨g,k*9,none⟩:=by
  unfold Addr.add
  by_cases hz:k*9=0
  ·rw [if_pos hz,hz]
  ·rw [if_neg hz];simp
 obtain⟨x0,hx0⟩:∃ x0,wr.cell? ⟨g,k*9,none⟩=some x0:=⟨_,by rw [<-e9];exact hcell (k*9) _ (List.getElem?_eq_getElem (by omega))⟩
 have hst:=hrd.set_ (k*9) (.int .i64 ((k:Int)+1)) (by omega) hpos
 rw [e9,numO_step os k (by have:=HOL.out;omega)] at hst
 obtain⟨HST,HKB,HOV,HB2⟩:=J4 hst hbk hov hb
 clear hst hbk hov hb hrd hxl hcell e9
 go_wp2_with fail
 go_roundw
 case rel=>
  refine⟨k+1,cu.setIfInBounds (k*9) (.int .i64 ((k:Int)+1)),by omega,by go_num,HKB.out.set_ _ _,?_,?_,HB2.out.setCell (p:=⟨g,_,none⟩) hge _⟩
  ·have e:(wr.setCell ⟨g,k*9,none⟩ (.int .i64 ((k:Int)+1))).heap.size=wr.heap.size:=by simp
   rw [e]
   exact HST.out
  ·exact HOV.out.kept ((Kept.refl _ _).set_ ⟨g,k*9,none⟩ (.inl fun h=>h.2 rfl) _)
 case measure=>simp [intOf];omega):p:=h
theorem Y14 {p:Prop} (h:p:=by
 refine gg hfr fun t=>?_
 go_wp2_with fail
 go_ret
 exact⟨rfl,HW.out⟩):p:=h
theorem Y15 {p:Prop} (h:p:=by
 rintro x w3 ⟨⟨e,n,ep,rfl⟩,ha⟩
 have h83:Blk w3 (w.heap.size+1) 50 #[.int .i64 0,.int .i64 0,.int .i64 0]:=(ha.2.1.2 (w.heap.size+1) (fun hy=>by have:=(H0.out.1 _ hy).2;omega) (by have:=KZ1.out;omega)).trans K8.out
 have HA:=J ha
 dsimp only
 obtain⟨W,HWW,z0,z1,z2,HKK,HLL,y0,y1,y2,f0⟩:=de h83 e n ep
 clear ha
 clear h83
 go_wp2
 rw [<-HWW.out]
 refine dr e n ep ?_
 exact⟨⟨_,_,_,rfl⟩,by rw [HRE.out];exact Acted.boxed H0.out.1 HB.out KB1.out (HA.out.more (Nat.le_add_right k 80)) ⟨by omega,by have:=KZ1.out;omega⟩ HKK.out HLL.out⟩):p:=h
theorem Y16 {p:Prop} (h:p:=by
 cases ho;refine on_ (wanted_none rfl) ?_
 have e81:F.eval (.tmp 81)=.agg #[m.whN,m.whE]:=(hat 2 81 kd rfl).trans (hp ⟨2,.data⟩ (by simp) rfl:U 2=.agg #[m.whN,m.whE])
 have t81:=act_tmp e81;clear hat hoff hp
 exact wp_value' (.slice (some ⟨W.heap.size,0,none⟩) 1 1) (W.alloc (.cells #[m.whN,m.whE] 26)) (by unfold execOp;go_simp) ⟨_,rfl,⟨_,rfl,Blk.new _ _ _,hGW.2.size⟩,⟨hGW.1.below ((Below.refl _ _).alloc (Nat.le_refl _) _),hGW.2.alloc hGW.2.size _⟩,(Below.refl _ _).alloc (Nat.le_refl _) _⟩):p:=h
theorem Y17 {p:Prop} (h:p:=by
 obtain⟨k0,k1,k2,k3,k4,k5,k6,k7,k8⟩:=hop
 have d:=(HBK.out.alloc (.cells #[.int .i64 o.n,o.epoch,o.kind,o.site,o.client,o.seq,.string o.name,o.size,.slice o.hA o.hn o.hc] 45))
 have d1:=d.cell k
 have f1:=d.frozen k
 rw [Array.getElem?_eq_getElem (by rw [HCS.out];exact hk1)] at d1
 obtain⟨D,HO⟩:=J2 d ho
 have hlt:=HBK.out.lt
 clear d ho
 go_wp2_with fail
 go_roundw
 case rel=>
  refine⟨k+1,cu.setIfInBounds k (.int .i64 o.epoch),by omega,by go_num,by rw [Array.size_setIfInBounds];exact HCS.out,(HBK.out.set_ _ _).alloc _,?_,(HB.out.setCell (p:=⟨w.heap.size,_,none⟩) (Nat.le_refl _) _).alloc (by have:=HB.out.size;simp;omega) _⟩
  intro j hj
  by_cases hjk:j=k
  ·subst hjk
   have h2:j<cu.size:=by rw [HCS.out];exact hk1
   simp [h2,intV,HO.out]
  ·rw [Array.getElem?_setIfInBounds_ne (by omega)]
   exact HCU.out j (by omega)
 case measure=>simp [intOf];omega):p:=h
theorem Y18 {p:Prop} (h:p:=by
 cases ho;refine on_ (wanted_none rfl) ?_
 have e80:F.eval (.tmp 80)=.pointer (some ⟨bx,13,none⟩):=(hat 1 80 kd rfl).trans (hp ⟨1,.data⟩ (by simp) rfl:U 1=.pointer (some ⟨bx,13,none⟩))
 have t80:=act_tmp e80;clear hat hoff hp;obtain⟨eA,en,ec,hA,hn',hc,oA,on,oc,pA,pn,pc,kb,ko⟩:=hGW.1.box;obtain⟨d0,d1⟩:=kb.cs 13 2
 exact wp_value' (.agg #[m.whN,m.whE]) W (by unfold execOp;go_simp) ⟨_,rfl,rfl,hGW,hrefl W⟩):p:=h
theorem Y19 {p:Prop} (h:p:=by
 refine hK _ _ ?_
 conv=>arg 2;whnf
 refine wp_ret (hQ _ _ ?_)
 refine bodyPost_ret (meet_results (b6:=b6) (b7:=b7) (by simp [putU,dstAt,Act.put]) (by simp [putU,dstAt,Act.put]) (by simp [putU,dstAt,Act.put];exact h4) hGW.1 hGW.2.1) (by simp [putU,dstAt,Act.put]) ?_
 exact hR _ hGW.2.2.1 hGW.2.2.2):p:=h
theorem Y20 {p:Prop} (h:p:=by
 clear HE HSB HD
 go_enter func44,ntmps44
 conv=>arg 2;arg 2;arg 2;arg 2;arg 2;change part [1,1,1,1] (codeOf shipLF)
 go_wp2_with fail
 rw [<-HW.out]
 go_quiet (fail)
 go_wp2_with fail
 refine (failed_any _ _).mono ?_
 rintro x w2 ⟨rfl,hb2⟩
 have hb2':Below w1 w1 w2:=⟨hb2.os,hb2.tape,hb2.output,hb2.size,hb2.block⟩
 have h82:=H8.out.below hb2' H8.out.lt
 obtain⟨W,hW,z0,z1,z2,hk,hl⟩:=done_end h82 rfl (.int .i64 120) (.int .i64 0) (.int .i64 0)
 obtain⟨y0,y1,y2⟩:=h82.cs 0 3
 have f0:=h82.frozen
 obtain⟨HWW,HKK,HLL,HB2⟩:=J4 hW hk hl hb2'
 clear hb2 hb2'
 clear h82 hk hl hW
 go_wp2
 rw [<-HWW.out]
 refine dr 120 0 0 ?_
 exact⟨⟨_,_,_,rfl⟩,Acted.idle (H0.out.more (Nat.le_add_right k 80)) (HB1.out.trans ((HB2.out.mono (by have:=HZ1.out;omega)).trans (HLL.out.mono (by omega)))) HB.out⟩):p:=h
theorem Y21 {p:Prop} (h:p:=by
 go_wp2
 go_meet
 have hne:w4.heap.size≠(w.heap.size+1+1):=by have:=K6'.out.lt;omega
 have hne7:(w.heap.size+1+1+1)≠(w.heap.size+1+1):=by omega
 have hne4:w.heap.size≠(w.heap.size+1+1):=by omega
 have hsv:=putCells_save (w.heap.size+1+1) awAnswer.toList (w4.alloc (.cells #[.slice none 0 0] 28)) 0
 have h4:=hsv.blk (K4'.out.alloc (.cells #[.slice none 0 0] 28)) hne4
 have h6:=putCells_blk (l:=awAnswer.toList) P6.out rfl
 have h7:=hsv.blk (K7'.out.alloc (.cells #[.slice none 0 0] 28)) hne7
 obtain⟨m1,m2,hled⟩:=L'.out.below hbs L'.out.lt
 have hb:=putCells_below (B:=w.heap.size) (rb:=(w.heap.size+1+1)) (by omega) awAnswer.toList w _ 0 (HB2.out.trans (hbs.mono HB2.out.size))
 exact⟨⟨h4,h6,h7,⟨m1,m2,hsv.blk hled (by omega)⟩,hb⟩,hsv.blk (Blk.new w4 _ _) hne⟩):p:=h
theorem Y22 {p:Prop} (h:p:=by
 intro j oj hoj hlj e he hbe
 have up:∀ k,l.getD k false=true->(l.setIfInBounds i true).getD k false=true:=by
  intro k hk
  by_cases hki:i=k
  ·subst hki;simp [Array.getD,hil]
  ·by_cases hkl:k<l.size
   ·simp [Array.getD,hkl,hki] at hk ⊢
    exact hk
   ·simp [Array.getD,hkl] at hk
 by_cases hji:j=i
 ·subst hji
  rw [ho] at hoj
  injection hoj with hoj
  subst hoj
  exact up _ (hpre e he hbe)
 ·have hj : j < ops.size := by
   rcases Nat.lt_or_ge j ops.size with h|h
   ·exact h
   ·rw [Array.getElem?_eq_none h] at hoj;cases hoj
  exact up _ (hcl j oj hoj (hold j hj hlj hji) e he hbe)):p:=h
theorem Y23 {p:Prop} (h:p:=by
 exact wp_value' (.pointer (some ⟨bx,13,none⟩)) W (by unfold execOp;go_simp) ⟨_,rfl,rfl,hGW,hrefl W⟩):p:=h
theorem Y24 {p:Prop} (h:p:=by
 have hl:LaneIs (W.setCell ⟨lb,7,none⟩ (.int .i64 l1.next)) S lb l1:=by
  rcases hGW.lane with h|h
  ·exact hnew l (by rw [HE.out]) h
  ·exact hnew l1 rfl h
 have hc:∃ x,W.cell? ⟨lb,7,none⟩=some (.int .i64 x)/\W.frozen? ⟨lb,7,none⟩=false:=by
  rcases hGW.lane with ⟨oA,on,oc,kl,ki⟩|⟨oA,on,oc,kl,ki⟩<;>exact⟨_,kl.cell 7,kl.frozen 7⟩
 obtain⟨x,c7,f7⟩:=hc
 refine wp_skip' (W.setCell ⟨lb,7,none⟩ (.int .i64 l1.next)) (by unfold execOp;go_simp) ?_
 exact⟨_,rfl,hl,hGW.turned HL.out (setCell_turn _ _ _ _) hl,setCell_turn _ _ _ _,fun _=>hl⟩):p:=h
theorem Y25 {p:Prop} (h:p:=by
 cases ho
 have eg:F.eval (.tmp 84)=.bool true:=(hat 5 84 kd rfl).trans (hp ⟨5,.guard⟩ (by simp) rfl:U 5=.bool true)
 refine on_ ((wanted_by rfl rfl eg).trans rfl) ?_
 have e86:F.eval (.tmp 86)=.pointer (some ⟨bx,13,none⟩):=(hat 7 86 kd rfl).trans (hp ⟨7,.data⟩ (by simp) rfl:U 7=.pointer (some ⟨bx,13,none⟩))
 have t86:=act_tmp e86;clear hat hoff hp;obtain⟨eA,en,ec,hA,hn',hc,oA,on,oc,pA,pn,pc,kb,ko⟩:=hGW.1.box;have d0:=kb.c1 13
 exact wp_value' (.int .i64 m.whN) W (by unfold execOp;go_simp) ⟨_,rfl,rfl,hGW,hrefl W⟩):p:=h
theorem Y26 {p:Prop} (h:p:=by
 exact wp_value' (.pointer (some ⟨lb,2,none⟩)) W (by unfold execOp;go_simp) ⟨_,rfl,rfl,hGW,hrefl W⟩):p:=h
theorem Y27 {p:Prop} (h:p:=by
 have HCB:=J hcb
 clear hcb
 go_enter func13,ntmps13
 conv=>arg 2;arg 2;arg 2;arg 2;change part [1,1,1] (codeOf applyLF)
 go_wp2_with fail
 rw [<-HW.out]
 refine HCK.out.mono ?_
 rintro x w2 ⟨rfl,hb12⟩
 rw [HCB.out]
 have K8:=J (H8.out.below hb12 H8.out.lt)
 have KB1:=J (HB1.out.trans (hb12.mono (by have:=HZ1.out;omega)))
 have KZ1:=J (show w.heap.size+2<=w2 by have:=HZ1.out;have:=hb12.size;omega)
 have K5:=J (H5.out.below hb12 H5.out.lt)
 clear hb12
 dsimp only [errB]
 go_wp2_with fail
 exact HGO.out HCB.out _ KB1.out KZ1.out K5.out K8.out _ ff):p:=h
theorem Y28 {p:Prop} (h:p:=by
 cases ho
 have eg:F.eval (.tmp 84)=.bool true:=(hat 5 84 kd rfl).trans (hp ⟨5,.guard⟩ (by simp) rfl:U 5=.bool true)
 refine on_ ((wanted_by rfl rfl eg).trans rfl) ?_
 have e93:F.eval (.tmp 93)=.pointer (some ⟨lb,2,none⟩):=(hat 14 93 kd rfl).trans (hp ⟨14,.data⟩ (by simp) rfl:U 14=.pointer (some ⟨lb,2,none⟩))
 have t93:=act_tmp e93;clear hat hoff hp;obtain⟨oA,on,oc,kl,ki⟩:=hGW.1.lane;have c2:=kl.c1 2
 exact wp_value' (.int .i64 l.wN) W (by unfold execOp;go_simp) ⟨_,rfl,rfl,hGW,hrefl W⟩):p:=h
theorem Y29 {p:Prop} (h:p:=by
 have hjl:j<l.size:=by omega
 have hij:¬ i=j:=fun e=>hji e.symm
 simp [Array.getD,hjl,hij] at hlj ⊢
 exact hlj):p:=h
theorem Y30 {p:Prop} (h:p:=by
 refine gg hfr fun t=>?_
 go_wp2_with fail
 exact HQ.out _ ff):p:=h
theorem Y31 {p:Prop} (h:p:=by
 exact wp_value' (.pointer (some ⟨lb,7,none⟩)) W (by unfold execOp;go_simp) ⟨_,rfl,rfl,hGW,hrefl W⟩):p:=h
theorem Y32 {p:Prop} (h:p:=by
 cases ho;refine on_ (wanted_none rfl) ?_
 have e40:F.eval (.tmp 40)=.pointer (some ⟨bx,9,none⟩):=(hat 0 40 kd rfl).trans (hp ⟨0,.data⟩ (by simp) rfl:U 0=.pointer (some ⟨bx,9,none⟩))
 have t40:=act_tmp e40;clear hat hoff hp;obtain⟨eA,en,ec,hA,hn',hc,oA,on,oc,pA,pn,pc,kb,ko⟩:=hGW.1.box;have d0:=kb.c1 9
 exact wp_value' (.int .i64 m.epoch) W (by unfold execOp;go_simp) ⟨_,rfl,rfl,hGW,hrefl W⟩):p:=h
theorem Y33 {p:Prop} (h:p:=by
 have hk:=hS
 clear hfr hch hS
 simp [putU,dstAt,Act.put]
 exact HQ.out _ _ ff hk):p:=h
theorem Y34 {p:Prop} (h:p:=by
 rintro x w1 ⟨rfl,rfl⟩
 go_wp2_with fail
 go_loopw [9] (fun i wr=>i=.int .i64 0/\wr=w1) (fun _ _=>0)
 case atStart=>exact⟨rfl,rfl⟩
 case round=>
  obtain⟨rfl,rfl⟩:=hrel
  go_wp2
  go_ret
  exact⟨rfl,rfl⟩):p:=h
theorem Y35 {p:Prop} (h:p:=by
 have:=main ops.size (Array.replicate ops.size false) U {w with drawn:=w.drawn+1} (by simp) hG (fun i hi h=>by simp [Array.getD,hi] at h) (Nat.le_trans (List.length_filter_le _ _) (by simp))
 rw [hU] at this
 exact this):p:=h
theorem Y36 {p:Prop} (h:p:=by
 have HGS:=J hg
 clear hg
 go_wp2
 all_goals first
  | (go_ret;exact⟨ret_bool' (decide_eq_true (by have:=HP.out;have:=HGS.out;omega)).symm,HB.out.alloc HB.out.size _⟩)
  | (go_roundw
     case rel=>exact⟨k+1,by omega,by go_num,by rw [<-HG.out,HGS.out];go_num,by have:=HGS.out;rw [<-HG.out];omega,HB.out.alloc HB.out.size _⟩
     case measure=>simp [intOf];omega)):p:=h
theorem Y37 {p:Prop} (h:p:=by
 cases ho;refine on_ (wanted_none rfl) ?_
 have e44:F.eval (.tmp 44)=.pointer (some ⟨lb,5,none⟩):=(hat 4 44 kd rfl).trans (hp ⟨4,.data⟩ (by simp) rfl:U 4=.pointer (some ⟨lb,5,none⟩))
 have t44:=act_tmp e44;clear hat hoff hp;obtain⟨oA,on,oc,kl,ki⟩:=hGW.1.lane;have d0:=kl.c1 5
 exact wp_value' (.int .i64 l.epoch) W (by unfold execOp;go_simp) ⟨_,rfl,rfl,hGW,hrefl W⟩):p:=h
theorem Y38 {p:Prop} (h:p:=by
 exact wp_value' (.pointer (some ⟨lb,5,none⟩)) W (by unfold execOp;go_simp) ⟨_,rfl,rfl,hGW,hrefl W⟩):p:=h
theorem Y39 {p:Prop} (h:p:=by
 exact wp_value' (.int .i64 0) W (by unfold execOp;go_simp) ⟨_,rfl,rfl,hGW,hrefl W⟩):p:=h
theorem Y40 {p:Prop} (h:p:=by
 intro U W hGW hV
 have h25:U 25=.bool true:=hV 25 kd
 obtain⟨HG,HU⟩:=J2 hGW.1 h25
 clear hV hGW h25
 simp [putU,dstAt,Act.put,HU.out]
 go_wp2
 go_ret
 exact⟨rfl,HG.out⟩):p:=h
theorem Y41 {p:Prop} (h:p:=by
 clear ho
 have hn2:=HNX.out
 rw [HD.out] at hn2
 have HN2:=J hn2
 clear hn2
 go_wp2_with fail
 exact HN2.out _ _ ff H1.out HB.out):p:=h
theorem Y42 {p:Prop} (h:p:=by
 conv=>arg 2;whnf
 go_wp2_with fail
 go_ret
 exact⟨ret_bool' (by rw [HS.out];rfl),HB.out⟩):p:=h
theorem Y43 {p:Prop} (h:p:=by
 go_enter func88,ntmps88
 go_wp2_with fail
 go_quiet (fail)
 go_wp2_with fail
 go_ret
 exact⟨rfl,below_drewN HB0.out _⟩):p:=h
theorem Y44 {p:Prop} (h:p:=by
 cases ho;refine on_ (wanted_none rfl) ?_;have:=ot 4 bx;clear hat hoff hp
 exact wp_value' (.pointer (some ⟨bx,11,none⟩)) W (by unfold execOp;go_simp) ⟨_,rfl,rfl,hGW,hrefl W⟩):p:=h
theorem Y45 {p:Prop} (h:p:=by
 have hk:=hGW.1
 clear hV hGW
 simp [putU,dstAt,Act.put,h96]
 exact HQ.out _ _ ⟨rfl,rfl,rfl,rfl,rfl,by first|(rw [HH.out];rfl)|(rw [HH.out,d1];rfl),trivial⟩ hk):p:=h
theorem Y46 {p:Prop} (h:p:=by
 refine⟨(List.range len).map fun i=>if h:i<len then (hex i h).choose else default,by simp,fun i hil=>⟨(hex i hil).choose,by simp [hil],(hex i hil).choose_spec⟩⟩):p:=h
theorem Y47 {p:Prop} (h:p:=by
 rcases hGW.lane with ⟨oA,on,oc,kl,ki⟩|⟨oA,on,oc,kl,ki⟩
 ·have c7:=kl.c1 7
  exact wp_value' (.int .i64 l.next) W (by unfold execOp;go_simp) ⟨_,rfl,.inl rfl,hGW,hrefl W⟩
 ·have c7:=kl.c1 7
  exact wp_value' (.int .i64 l1.next) W (by unfold execOp;go_simp) ⟨_,rfl,.inr rfl,hGW,hrefl W⟩):p:=h
theorem Y48 {p:Prop} (h:p:=by
 go_wp2_with fail
 go_ret
 exact⟨rfl,HW1.out⟩):p:=h
theorem Y49 {p:Prop} (h:p:=by
 go_enter func25,ntmps25
 go_wp2
 go_ret2
 exact⟨rfl,rfl⟩):p:=h
theorem Y50 {p:Prop} (h:p:=by
 clear HE HSB
 go_enter func44,ntmps44
 conv=>arg 2;arg 2;arg 2;arg 2;arg 2;change part [1,1,1,1] (codeOf shipLF)
 go_wp2_with fail
 rw [<-HW.out]
 go_quiet (fail)
 go_wp2_with fail
 exact HD.out _ _ ⟨rfl,rfl,rfl,rfl,rfl,congrArg (fun n=>Value.pointer (some ⟨n,0,none⟩)) HZ1.out,trivial⟩):p:=h
theorem Y51 {p:Prop} (h:p:=by
 go_wp2_with fail
 refine HS.out.mono ?_
 rintro e w1 ⟨rfl,hb1⟩
 have HB1:=J (HB.out.trans (hb1.mono HB.out.size))
 clear hb1
 go_wp2
 go_ret
 exact⟨rfl,HB1.out⟩):p:=h
theorem Y52 {p:Prop} (h:p:=by
 exact wp_value' (.bool false) W (by unfold execOp;go_simp) ⟨_,rfl,rfl,hGW,hrefl W⟩):p:=h
theorem Y53 {p:Prop} (h:p:=by
 exact wp_value' (.int .i64 2) W (by unfold execOp;go_simp) ⟨_,rfl,rfl,hGW,hrefl W⟩):p:=h
theorem Y54 {p:Prop} (h:p:=by
 exact vl ⟨rfl,rfl⟩ (h:=by unfold execOp;go_simp;all_goals first|omega|exact IntWalk.i64_in _ (by omega))):p:=h
theorem Y55 {p:Prop} (h:p:=by
 clear hx
 subst hA
 subst hA'
 have b1:(0:Int)<=(k:Int):=by omega
 have b2:(k:Int)<(n:Int):=by omega
 go_wp2_with fail
 go_quiet (fail)
 go_wp2
 go_roundw
 case rel=>exact⟨k+1,by omega,by go_num,below_drewN HB.out _⟩
 case measure=>simp [intOf];omega):p:=h
theorem Y56 {p:Prop} (h:p:=by
 unfold updU
 by_cases hji:j=i
 ·subst hji;rw [if_pos rfl];exact hv
 ·rw [if_neg hji]
  exact hmono _ _ _ _ hx (hV j hj (hold j hj hlj hji))):p:=h
theorem Y57 {p:Prop} (h:p:=by
 exact wp_value' (.agg #[.int .i64 0,.int .i64 0]) W (by unfold execOp;go_simp) ⟨_,rfl,rfl,hGW,hrefl W⟩):p:=h
theorem Y58 {p:Prop} (h:p:=by
 have:=List.all_eq_true.1 h3 i (List.mem_range.2 hi)
 rw [ho] at this
 simp only [Bool.and_eq_true,Option.isNone_iff_eq_none,Array.all_eq_true_iff_forall_mem,Bool.or_eq_true,Bool.not_eq_true',decide_eq_true_eq] at this
 exact⟨this.1,fun e he hb=>(this.2 e he).resolve_left (by rw [hb];simp)⟩):p:=h
theorem Y59 {p:Prop} (h:p:=by
 have hj:j<n:=by have:=(List.getElem?_eq_some_iff.1 hu).1;simp [intV] at this;rw [HL.out] at this;exact this
 have e:(⟨w.heap.size,0,none⟩:Addr).add j=⟨w.heap.size,j,none⟩:=by simp [Addr.add];try exact fun h=>h.symm
 rw [e,HBK.out.cell j,HCU.out j hj]
 exact hu):p:=h
theorem Y60 {p:Prop} (h:p:=by
 go_wp2_with fail
 refine (HG3.out _ HB0.out).mono ?_
 rintro e w1 ⟨rfl,hb1⟩
 have hk:=HBK.out.below hb1 HBK.out.lt
 have c7:=hk.c1 7
 have HB1:=J (HB0.out.trans (hb1.mono HB0.out.size))
 clear hb1 hk
 go_wp2
 go_ret
 exact⟨rfl,HB1.out⟩):p:=h
theorem Y61 {p:Prop} (h:p:=by
 unfold updU
 by_cases hji:j=i
 ·subst hji;rw [if_pos rfl];exact hst.2 hw'
 ·rw [if_neg hji]
  exact hV j hj (hold j hj hlj hji)):p:=h
theorem Y62 {p:Prop} (h:p:=by
 cases ho
 have eg:F.eval (.tmp 84)=.bool true:=(hat 5 84 kd rfl).trans (hp ⟨5,.guard⟩ (by simp) rfl:U 5=.bool true)
 refine on_ ((wanted_by rfl rfl eg).trans rfl) ?_;have e0:=oo 0 lb;exact wp_move' (.tmp 0) rfl ⟨_,rfl,e0,hGW,hrefl W⟩):p:=h
theorem Y63 {p:Prop} (h:p:=by
 have:os.length-1 >= os.length:=by
  rcases Nat.lt_or_ge (os.length-1) os.length with h|h
  ·rw [List.getElem?_eq_getElem h] at ho;cases ho
  ·exact h
 have h0:cs.length=0:=by omega
 rw [List.eq_nil_of_length_eq_zero h0]
 rfl):p:=h
theorem Y64 {p:Prop} (h:p:=by
 intro s hs
 by_cases hsi:i=s
 ·subst hsi;simp [Array.getD,hil] at hs
 ·refine⟨fun e=>hsi e.symm,?_⟩
  by_cases hsl:s<l.size
  ·simp [Array.getD,hsl,hsi] at hs ⊢
   exact hs
  ·simp [Array.getD,hsl]):p:=h
theorem Y65 {p:Prop} (h:p:=by
 rintro e W' ⟨g,c',rfl,_,_,_,hb⟩
 exact⟨_,rfl,_,rfl,⟨g,c',rfl⟩,⟨hGW.1.trans (hb.mono hGW.1.size),Nat.lt_of_lt_of_le hGW.2.1 hb.size,cells17_below hGW.2.2 hb⟩,Save.of hb,hb.size,fun ⟨g,c',h⟩=>⟨g,c',h.below hb h.lt⟩⟩):p:=h
theorem Y66 {p:Prop} (h:p:=by
 cases ho
 exact vl ⟨rfl,rfl⟩):p:=h
theorem Y67 {p:Prop} (h:p:=by
 obtain⟨H8,HB1,HZ1,H0,HB⟩:=J5 h8 hb1 hz1 h hB
 have o0:=hbo.c1 5
 obtain⟨p0,p1,p2,p3,p4,p5,p6,p7,p8⟩:=hbw.cs 0 9
 have HK:=J hK
 clear hK
 clear h hB hz1 hb1 h8 hbo hbw
 refine gg hfr fun t=>?_
 go_wp2_with fail
 exact HK.out _ ff):p:=h
theorem Y68 {p:Prop} (h:p:=by
 cases ho;have hrb4:=ow 4 E4;have hrb6:=ow 6 E6;have hrb7:=ow 7 E7;have hrbo:=ow 11 EO;clear hat hoff hp;have hx:=act_tmp hrb4
 exact wp_value' (.pointer (some ⟨b4,11,none⟩)) W (by unfold execOp;go_simp) ⟨_,rfl,rfl,hGW,trivial⟩):p:=h
theorem Y69 {p:Prop} (h:p:=by
 intro w
 have q:∀ (w:World),(binOp .eql 28 (.slice none 0 c) (.slice none 0 0)).run prog w=.ok (.bool true) w:=fun w=>Lib.run_eql_slice_nil w _ _ none 0 c 0 0 underlying28
 go_enter func98,ntmps98
 go_wp2
 go_ret
 exact⟨rfl,rfl⟩):p:=h
theorem Y70 {p:Prop} (h:p:=by
 rw [HE.out] at hk
 clear hV hGW hl1
 simp [putU,dstAt,Act.put]
 exact HQ.out _ _ ff hk):p:=h
theorem Y71 {p:Prop} (h:p:=by
 exact wp_value' (.int .i64 1) W (by unfold execOp;go_simp) ⟨_,rfl,rfl,hGW,hrefl W⟩):p:=h
theorem Y72 {p:Prop} (h:p:=by
 obtain⟨s0,s1⟩:=hs.cs 0 2
 have HG:=J hG
 clear hs hG
 refine gg hfr fun t=>?_
 obtain⟨W,HWW,z0,z1,z2,HKK,HLL,y0,y1,y2,f0⟩:=de h8 0 N E
 clear h8
 go_wp2
 rw [<-HWW.out]
 refine dr 0 N E ?_
 exact HG.out _ HKK.out HLL.out):p:=h
theorem Y73 {p:Prop} (h:p:=by
 exact⟨rfl,(Below.refl _ _).alloc (Nat.le_refl _) _⟩):p:=h
theorem Y74 {p:Prop} (h:p:=by
 cases ho;refine on_ (wanted_none rfl) ?_
 have e83:F.eval (.tmp 83)=.bool true:=(hat 4 83 kd rfl).trans (hp ⟨4,.data⟩ (by simp) rfl:U 4=.bool true)
 exact wp_move' (.tmp 83) rfl ⟨_,rfl,e83,hGW,hrefl W⟩):p:=h
theorem Y75 {p:Prop} (h:p:=by
 cases ho;have hrb4:=ow 4 E4;have hrb6:=ow 6 E6;have hrb7:=ow 7 E7;clear hat hoff hp;have hx:=act_tmp hrb4
 exact wp_value' (.pointer (some ⟨b4,11,none⟩)) W (by unfold execOp;go_simp) ⟨_,rfl,rfl,hGW,hrefl W⟩):p:=h
theorem Y76 {p:Prop} (h:p:=by
 rintro e W' ⟨rfl,hb⟩
 exact⟨_,rfl,_,rfl,rfl,⟨hGW.1.trans (hb.mono hGW.1.size),Nat.lt_of_lt_of_le hGW.2.1 hb.size,cells17_below hGW.2.2 hb⟩,Save.of hb,hb.size,fun ⟨g,c',h⟩=>⟨g,c',h.below hb h.lt⟩⟩):p:=h
theorem Y77 {p:Prop} (h:p:=by
 obtain⟨A',c',rfl,hi⟩:=hv
 exact⟨A',c',rfl,hi.kept ⟨hx.1.1,fun b h1 h2=>hx.1.2 b ⟨by have:w0.heap.size<=b:=h1;have:=HBB.out;omega,by have:w0.heap.size<=b:=h1;have:=HBB.out;omega⟩ h2⟩⟩):p:=h
theorem Y78 {p:Prop} (h:p:=by
 go_wp2
 go_ret
 exact⟨rfl,HB.out⟩):p:=h
theorem Y79 {p:Prop} (h:p:=by
 have HS1:=J hS1
 clear hS1
 go_wp2_with fail
 refine HQ.out _ _ ⟨rfl,rfl,rfl,rfl,rfl,rfl,rfl,rfl,?_,trivial⟩ HB.out
 rw [HT.out,<-HR9.out];simp [HK.out,HE1.out,HS1.out];rfl):p:=h
theorem Y80 {p:Prop} (h:p:=by
 exact wp_value' (.pointer (some ⟨lb,6,none⟩)) W (by unfold execOp;go_simp) ⟨_,rfl,rfl,hGW,hrefl W⟩):p:=h
theorem Y81 {p:Prop} (h:p:=by
 exact absurd (by decide) hni):p:=h
theorem Y82 {p:Prop} (h:p:=by
 have hg:=(HL.out.fold.blk.below hsm HL.out.fold.blk.lt)
 have d0:=hg.c1 5
 exact vl ⟨rfl,rfl⟩):p:=h
theorem Y83 {p:Prop} (h:p:=by
 simp only [Bool.or_eq_true,bne_iff_ne,ne_eq,beq_iff_eq,Option.isNone_iff_eq_none] at this
 rcases this with (h|h)|h
 ·rw [e1] at h;cases h
 ·exact absurd (e1.trans e2.symm) h
 ·exact h):p:=h
theorem Y84 {p:Prop} (h:p:=by
 obtain⟨HL2,HT⟩:=J2 hl' ht
 clear hrun hl' ht
 go_wp2_with fail
 exact HQ.out _ _ ff HL2.out HT.out):p:=h
theorem Y85 {p:Prop} (h:p:=by
 rintro e w1 ⟨rfl,rfl⟩
 rw [hv]
 dsimp only
 go_wp2_with fail
 go_ret
 exact⟨rfl,HW.out⟩):p:=h
theorem Y86 {p:Prop} (h:p:=by
 simp [Array.getD,hil] at hln ⊢
 exact hln):p:=h
theorem Y87 {p:Prop} (h:p:=by
 rw [List.getElem?_take] at hu
 split at hu
 ·exact hu
 ·cases hu):p:=h
theorem Y88 {p:Prop} (h:p:=by
 cases ho;refine on_ (wanted_none rfl) ?_;obtain⟨c0,c1⟩:=hGW.2.cs 0 2
 exact wp_value' (.agg #[N,E]) W (by unfold execOp;go_simp) ⟨_,rfl,rfl,hGW,hrefl W⟩):p:=h
theorem Y89 {p:Prop} (h:p:=by
 exact⟨⟨_,_,_,rfl,fun h=>absurd h (by decide)⟩,Acted.idle H0.out (HB1.out.trans ((HB2.out.mono (by have:=HZ1.out;omega)).trans (HLL.out.mono (by omega)))) HB.out⟩):p:=h
theorem Y90 {p:Prop} (h:p:=by
 exact HNX.out _ _ ff H1.out HB.out):p:=h
theorem Y91 {p:Prop} (h:p:=by
 obtain⟨A',c',rfl,hi⟩:=hv
 exact⟨A',c',rfl,hi.kept ⟨hx.1.2,fun b h1 h2=>hx.1.1 b h2 (by have:w0.heap.size+1<=b:=h1;have:=HRB.out;omega)⟩⟩):p:=h
theorem Y92 {p:Prop} (h:p:=by
 have:=early_done hearly (l:=fun j=>l.getD j false) (fun j oj hoj hlj e he hbe=>hcl j oj hoj hlj e he hbe) hs hb2 i hio he
 rw [hlf] at this
 cases this):p:=h
theorem Y93 {p:Prop} (h:p:=by
 go_wp2_with fail
 exact shp1 _ ff HK1.out HO1.out HZ.out HB2.out (by rw [HRES.out];rfl)):p:=h
theorem Y94 {p:Prop} (h:p:=by
 exact wp_value' (.int .i64 N) W (by unfold execOp;go_simp) ⟨_,rfl,rfl,hGW,hrefl W⟩):p:=h
theorem Y95 {p:Prop} (h:p:=by
 intro U vs W hS hvl hfr hch
 obtain⟨x0,rfl⟩:=ln1 hvl
 have r1:W=_:=hS
 subst r1
 clear hfr hch hS
 simp [putU,dstAt,Act.put]
 exact HQ.out _ ff):p:=h
theorem Y96 {p:Prop} (h:p:=by
 have HK:=J hK
 clear hK
 clear h hb
 refine gg hfr fun t=>?_
 go_wp2_with fail
 go_quiet (fail)
 go_wp2_with fail
 exact HK.out _ _ ff (below_drewN (Below.refl _ _) _)):p:=h
theorem Y97 {p:Prop} (h:p:=by
 cases ho;have:=tx 0 13;have:=tx 1 14
 exact vna (h:=by unfold execOp;go_simp;(by_cases q1:N=0<;>by_cases q2:E=0<;>first|omega|simp_all))):p:=h
theorem Y98 {p:Prop} (h:p:=by
 exact wp_value' (.bool true) W (by unfold execOp;go_simp) ⟨_,rfl,rfl,hGW,hrefl W⟩):p:=h
theorem Y99 {p:Prop} (h:p:=by
 have hk:=hGW.1
 clear hV hGW
 simp [putU,dstAt,Act.put,h39]
 exact HQ.out _ _ ⟨rfl,rfl,rfl,rfl,rfl,by rw [HD.out];rfl,trivial⟩ hk):p:=h
theorem Y100 {p:Prop} (h:p:=by
 have h:=within_new 1 5 m.kind g t W hg
 have e:(decide (1<=m.kind)&&decide (m.kind<=5))=false:=by rw [HK.out];rfl
 rw [e] at h
 exact h):p:=h
theorem Y101 {p:Prop} (h:p:=by
 exact⟨_,_,hl',hb,.inr (.inr (.inr (.inr (.inr ⟨rfl,c2,rfl,rfl⟩))))⟩):p:=h
theorem Y102 {p:Prop} (h:p:=by
 go_wp2
 exact bodyPost_ret (v:=spotV 0 0) (by simp [results,results55,go_sem,spotV]) rfl ⟨rfl,((Below.refl _ _).alloc (Nat.le_refl _) _)⟩):p:=h
theorem Y103 {p:Prop} (h:p:=by
 obtain⟨g,h1,h2,h3⟩:=hv
 exact⟨g,h1,h2.below hx h2.lt,h3⟩):p:=h
theorem Y104 {p:Prop} (h:p:=by
 rw [put_put_same,putU_cong i (U:=U) (U':=updU U i v) (fun j hj=>by unfold updU;rw [if_neg (by omega)])]
 unfold updU
 rw [if_pos rfl]):p:=h
theorem Y105 {p:Prop} (h:p:=by
 clear hQ ho
 refine gg hfr fun t=>?_
 go_wp2_with fail
 exact HQ.out _ ⟨rfl,rfl,rfl,rfl,rfl,rfl,rfl,congrArg Value.bool HV.out,trivial⟩):p:=h
theorem Y106 {p:Prop} (h:p:=by
 exact wp_value' (.int .i64 (max settled N)) W (by unfold execOp;go_simp;all_goals first|omega|exact IntWalk.i64_in _ (by omega)) ⟨rfl,rfl⟩):p:=h
theorem Y107 {p:Prop} (h:p:=by
 simp at d0
 exact vl ⟨rfl,rfl⟩):p:=h
theorem Y108 {p:Prop} (h:p:=by
 exact⟨rfl,((Below.refl _ _).alloc (Nat.le_refl _) _).alloc (by simp) _⟩):p:=h
theorem Y109 {p:Prop} (h:p:=by
 rw [List.all_eq_true]
 intro o ho
 obtain⟨i,hi⟩:=List.getElem?_of_mem ho
 exact decide_eq_true (h.hold _ _ (drop_take_at hi).2).1):p:=h
theorem Y110 {p:Prop} (h:p:=by
 obtain⟨os,h1,_⟩:=h
 rcases Nat.eq_zero_or_pos n with h0|h0
 ·exact h0
 ·obtain⟨_,e,_⟩:=h1.2 h0
  cases e):p:=h
theorem Y111 {p:Prop} (h:p:=by
 go_wp2_with fail
 go_ret
 exact⟨rfl,HB2.out⟩):p:=h
theorem Y112 {p:Prop} (h:p:=by
 obtain⟨s,h3,h4,_⟩:=h2 i (by omega)
 rw [List.getElem?_eq_getElem hil] at h3
 injection h3 with h3
 rw [h3]
 exact h4):p:=h
theorem Y113 {p:Prop} (h:p:=by
 have E:=J e
 clear e
 go_wp2_with fail
 exact HQ.out _ ⟨rfl,rfl,rfl,rfl,rfl,congrArg (Value.int .i64) E.out,trivial⟩):p:=h
theorem Y114 {p:Prop} (h:p:=by
 go_wp2_with fail
 go_quiet (fail)
 go_wp2
 go_ret
 exact⟨rfl,below_drewN ((Below.refl _ _).alloc (Nat.le_refl _) _) _⟩):p:=h
theorem Y115 {p:Prop} (h:p:=by
 obtain rfl:=hS.nil_ (hlim 0 12 rfl rfl)
 have d0:=HG.out.cell 5
 rw [H5.out] at d0
 exact vl ⟨rfl,rfl⟩):p:=h
theorem Y116 {p:Prop} (h:p:=by
 go_wp2_with fail
 exact HNX.out (by rw [HC.out];rfl) _ _ ff HK4.out (HB.out.trans (HZ4.out.mono HB.out.size))):p:=h
theorem Y117 {p:Prop} (h:p:=by
 clear h82
 go_wp2
 rw [<-HWW.out]
 refine dr 121 0 0 ?_
 exact⟨⟨_,_,_,rfl⟩,HH.out.end_ HKK.out HLL.out⟩):p:=h
theorem Y118 {p:Prop} (h:p:=by
 rcases Nat.lt_or_ge k chain.length with h|h
 ·exact h
 ·rw [List.getElem?_eq_none h] at hk;cases hk):p:=h
theorem Y119 {p:Prop} (h:p:=by
 go_wp2_with fail
 exact HQ.out _ _ ff HB2.out):p:=h
theorem Y120 {p:Prop} (h:p:=by
 exact wp_skip' (W.setCell ⟨g,8,none⟩ (.int .i64 (max settled N))) (by unfold execOp;go_simp) ⟨_,rfl,rfl⟩):p:=h
theorem Y121 {p:Prop} (h:p:=by
 exact wp_value' (.slice (some ⟨gp,0,none⟩) 2 2) W (by unfold execOp;go_simp) ⟨_,rfl,rfl,hGW,hrefl W⟩):p:=h
theorem Y122 {p:Prop} (h:p:=by
 refine gg hfr fun t=>?_
 go_wp2_with fail
 all_goals first|exact HQ.out _ ff|(exfalso;have:=HN.out;omega)):p:=h
theorem Y123 {p:Prop} (h:p:=by
 go_wp2
 go_ret
 exact⟨none,0,rfl,⟨Rs.nil_ _ _ _ _,Nat.le_refl _,Nat.zero_le _⟩,Below.refl _ _⟩):p:=h
theorem Y124 {p:Prop} (h:p:=by
 exact wp_value' (.pointer (some ⟨bx,9,none⟩)) W (by unfold execOp;go_simp) ⟨_,rfl,rfl,hGW,hrefl W⟩):p:=h
theorem Y125 {p:Prop} (h:p:=by
 rw [hcell j hj]
 rw [List.getElem?_take] at hs
 split at hs
 ·simp [List.getD,hs]
 ·cases hs):p:=h
theorem Y126 {p:Prop} (h:p:=by
 clear hk
 go_wp2_with fail
 exact HQ.out _ ⟨rfl,rfl,rfl,rfl,rfl,rfl,by rw [HD.out];rfl,trivial⟩):p:=h
theorem Y127 {p:Prop} (h:p:=by
 rcases Nat.eq_zero_or_pos n with h0|h0
 ·exact h0
 ·obtain⟨_,h,_⟩:=h.1.2 h0
  cases h):p:=h
theorem Y128 {p:Prop} (h:p:=by
 exact⟨by rw [has_put_other hne];exact (h3 x).1,fun y=>by rw [atKey_put_other hne];exact (h3 x).2 y⟩):p:=h
theorem Y129 {p:Prop} (h:p:=by
 refine Act.put_comm _ _ _ fun d hdn hdi=>?_
 exact h ((hd n i (by omega) (by omega) d hdn hdi).symm)):p:=h
theorem Y130 {p:Prop} (h:p:=by
 rintro x w1 ⟨rfl,rfl⟩
 exact⟨none,0,rfl,OpsIs.nil_ _ _ _ _ (Nat.zero_le _),Below.refl _ _⟩):p:=h
theorem Y131 {p:Prop} (h:p:=by
 exact fits_of (by omega) (by omega) (by omega) (by omega) (by omega) (by omega) a6 (by omega) (by omega)):p:=h
theorem Y132 {p:Prop} (h:p:=by
 have h1:=hv w hb
 have h2:=hv w' (hk.trans hb)
 rw [hrun] at h1
 obtain rfl:=ok_inj h1
 exact h2):p:=h
theorem Y133 {p:Prop} (h:p:=by
 obtain⟨D,⟨es,clock,h1,h2⟩,h3⟩:=h
 exact⟨D,⟨es,clock,hk.trans h1,h2⟩,h3⟩):p:=h
theorem Y134 {p:Prop} (h:p:=by
 exact wp_value' (.agg #[m.atN,m.atE]) W (by unfold execOp;go_simp) ⟨_,rfl,rfl,hGW,hrefl W⟩):p:=h
theorem Y135 {p:Prop} (h:p:=by
 obtain⟨rfl,rfl,rfl⟩:=hcs
 exact⟨[],Reads.none_,by unfold maxLen;omega,by simp⟩):p:=h
theorem Y136 {p:Prop} (h:p:=by
 rcases vs with _|⟨u,l⟩
 ·exact h
 ·simp at hl):p:=h
theorem Y137 {p:Prop} (h:p:=by
 obtain rfl:=hS.nil_ (hlim 0 10 rfl rfl)
 have d0:=HG.out.c1 8
 exact vl ⟨rfl,rfl⟩):p:=h
theorem Y138 {p:Prop} (h:p:=by
 obtain rfl:=hS.nil_ (hlim 0 10 rfl rfl)
 have d0:=HO.out.c1 0
 exact vl ⟨rfl,rfl⟩):p:=h
theorem Y139 {p:Prop} (h:p:=by
 clear hbk
 have hp2:=act_tmp hp
 have hv2:=act_tmp hv
 unfold execOp
 rw [hop]
 go_simp
 rfl):p:=h
theorem Y140 {p:Prop} (h:p:=by
 exact⟨n1,n2,((hh.far (by simp;omega) _).far (by simp;omega) _).far (by simp;omega) _⟩):p:=h
theorem Y141 {p:Prop} (h:p:=by
 obtain⟨c,hc,A,n',cap,e,_⟩:=h2.get _ _ ho
 rw [<-hl,hc]
 subst e
 rfl):p:=h
theorem Y142 {p:Prop} (h:p:=by
 rcases Nat.lt_or_ge i ops.size with h|h
 ·exact h
 ·rw [Array.getElem?_eq_none h] at ho;cases ho):p:=h
theorem Y143 {p:Prop} (h:p:=by
 exact⟨⟨_,_,_,rfl⟩,Acted.idle H0.out (HB1.out.trans ((HB2.out.mono (by have:=HZ1.out;omega)).trans (HLL.out.mono (by omega)))) HB.out⟩):p:=h
theorem Y144 {p:Prop} (h:p:=by
 cases ho
 have eg:F.eval (.tmp 84)=.bool true:=(hat 5 84 kd rfl).trans (hp ⟨5,.guard⟩ (by simp) rfl:U 5=.bool true)
 refine on_ ((wanted_by rfl rfl eg).trans rfl) ?_
 have e90:F.eval (.tmp 90)=.pointer (some ⟨lb,0,none⟩):=(hat 11 90 kd rfl).trans (hp ⟨11,.data⟩ (by simp) rfl:U 11=.pointer (some ⟨lb,0,none⟩))
 have t90:=act_tmp e90;clear hat hoff hp
 exact Y26):p:=h
theorem Y145 {p:Prop} (h:p:=by
 cases ho
 have eg:F.eval (.tmp 84)=.bool true:=(hat 5 84 kd rfl).trans (hp ⟨5,.guard⟩ (by simp) rfl:U 5=.bool true)
 refine on_ ((wanted_by rfl rfl eg).trans rfl) ?_
 have e91:F.eval (.tmp 91)=.pointer (some ⟨lb,2,none⟩):=(hat 12 91 kd rfl).trans (hp ⟨12,.data⟩ (by simp) rfl:U 12=.pointer (some ⟨lb,2,none⟩))
 have t91:=act_tmp e91;clear hat hoff hp
 exact Y26):p:=h
theorem Y146 {p:Prop} (h:p:=by
 cases ho
 have eg:F.eval (.tmp 84)=.bool true:=(hat 5 84 kd rfl).trans (hp ⟨5,.guard⟩ (by simp) rfl:U 5=.bool true)
 refine on_ ((wanted_by rfl rfl eg).trans rfl) ?_
 have e92:F.eval (.tmp 92)=.pointer (some ⟨lb,2,none⟩):=(hat 13 92 kd rfl).trans (hp ⟨13,.data⟩ (by simp) rfl:U 13=.pointer (some ⟨lb,2,none⟩))
 have t92:=act_tmp e92;clear hat hoff hp
 exact Y26):p:=h
theorem Y147 {p:Prop} (h:p:=by
 cases ho
 have eg:F.eval (.tmp 84)=.bool true:=(hat 5 84 kd rfl).trans (hp ⟨5,.guard⟩ (by simp) rfl:U 5=.bool true)
 refine on_ ((wanted_by rfl rfl eg).trans rfl) ?_
 have e85:F.eval (.tmp 85)=.pointer (some ⟨bx,13,none⟩):=(hat 6 85 kd rfl).trans (hp ⟨6,.data⟩ (by simp) rfl:U 6=.pointer (some ⟨bx,13,none⟩))
 have t85:=act_tmp e85;clear hat hoff hp
 exact Y23):p:=h
theorem Y148 {p:Prop} (h:p:=by
 cases ho
 have eg:F.eval (.tmp 84)=.bool true:=(hat 5 84 kd rfl).trans (hp ⟨5,.guard⟩ (by simp) rfl:U 5=.bool true)
 refine on_ ((wanted_by rfl rfl eg).trans rfl) ?_
 have e89:F.eval (.tmp 89)=.pointer (some ⟨lb,0,none⟩):=(hat 10 89 kd rfl).trans (hp ⟨10,.data⟩ (by simp) rfl:U 10=.pointer (some ⟨lb,0,none⟩))
 have t89:=act_tmp e89;clear hat hoff hp
 exact Y7):p:=h
theorem Y149 {p:Prop} (h:p:=by
 cases ho
 have eg:F.eval (.tmp 84)=.bool true:=(hat 5 84 kd rfl).trans (hp ⟨5,.guard⟩ (by simp) rfl:U 5=.bool true)
 refine on_ ((wanted_by rfl rfl eg).trans rfl) ?_
 have e88:F.eval (.tmp 88)=.pointer (some ⟨lb,0,none⟩):=(hat 9 88 kd rfl).trans (hp ⟨9,.data⟩ (by simp) rfl:U 9=.pointer (some ⟨lb,0,none⟩))
 have t88:=act_tmp e88;clear hat hoff hp
 exact Y7):p:=h
theorem Y150 {p:Prop} (h:p:=by
 cases ho;refine on_ (wanted_none rfl) ?_;have e4:=oo 4 bx;have t4:=act_tmp e4;clear hat hoff hp
 exact Y23):p:=h
theorem Y151 {p:Prop} (h:p:=by
 cases ho;refine on_ (wanted_none rfl) ?_
 have e43:F.eval (.tmp 43)=.pointer (some ⟨lb,0,none⟩):=(hat 3 43 kd rfl).trans (hp ⟨3,.data⟩ (by simp) rfl:U 3=.pointer (some ⟨lb,0,none⟩))
 have t43:=act_tmp e43;clear hat hoff hp
 exact Y38):p:=h
theorem Y152 {p:Prop} (h:p:=by
 cases ho;refine on_ (wanted_none rfl) ?_
 have e42:F.eval (.tmp 42)=.pointer (some ⟨lb,0,none⟩):=(hat 2 42 kd rfl).trans (hp ⟨2,.data⟩ (by simp) rfl:U 2=.pointer (some ⟨lb,0,none⟩))
 have t42:=act_tmp e42;clear hat hoff hp
 exact Y7):p:=h
theorem Y153 {p:Prop} (h:p:=by
 refine ih _ _ _ (by simp [hl]) hG' (fun j hj hlj=>?_) ?_
 ·unfold updU
  by_cases hji:j=i
  ·subst hji;rw [if_pos rfl];exact hv
  ·rw [if_neg hji]
   refine hmono _ _ _ _ hx (hV j hj ?_)
   exact Y29
 ·
  exact Y8):p:=h
theorem Y154 {p:Prop} (h:p:=by
 go_wp2
 go_ret
 exact⟨rfl,rfl⟩):p:=h
theorem Y155 {p:Prop} (h:p:=by
 rw [hd] at hsh
 have HC:=J hsh
 clear hsh
 refine gg hfr fun t=>?_
 go_wp2_with fail
 refine HC.out.mono ?_
 rintro e w1 ⟨rfl,hb1⟩
 have HW1:=J (HW.out.trans (hb1.mono HW.out.size))
 clear hb1
 exact Y48):p:=h
theorem Y156 {p:Prop} (h:p:=by
 go_enter func43,ntmps43
 conv=>arg 2;arg 2;arg 2;change part [1,1] (codeOf doFF)
 exact Y9):p:=h
theorem Y157 {p:Prop} (h:p:=by
 intro U vs W hS hvl hfr hch
 obtain⟨x0,x1,x2,rfl⟩:=ln3 hvl
 exact Y33):p:=h
theorem Y158 {p:Prop} (h:p:=by
 go_enter func53,ntmps53
 go_wp2
 refine bodyPost_ret (v:=.agg #[.int .i64 0,.int .i64 0]) (by simp [results,results53,go_sem]) rfl ?_
 exact Y73):p:=h
theorem Y159 {p:Prop} (h:p:=by
 have ht2:=act_tmp (hat 2 18 kd rfl);clear hat hoff hp;rw [hv2] at ht2;have hc:=(HL.out.below hGW.1 HL.out.lt).cell 5;simp at hc
 exact Y71):p:=h
theorem Y160 {p:Prop} (h:p:=by
 have ht6:=act_tmp (hat 6 22 kd rfl);clear hat hoff hp;rw [hv6] at ht6;have hc:=(HL.out.below hGW.1 HL.out.lt).cell 6;simp at hc
 exact Y39):p:=h
theorem Y161 {p:Prop} (h:p:=by
 have e:IntKind.i64.wrap ((j:Int)+1)=((j+1:Nat):Int):=by rw [IntKind.wrap_i64];omega
 have HQ:=J hQ
 clear hQ hj
 exact Y30):p:=h
theorem Y162 {p:Prop} (h:p:=by
 intro U W hGW hV
 have h4:U 4=.int .i64 1:=hV 4 kd
 exact Y19):p:=h
theorem Y163 {p:Prop} (h:p:=by
 have hr2:r=false:=by rw [HR.out];simp [rowFrom,stepB,hk3,hE]
 subst hr2
 exact Y48):p:=h
theorem Y164 {p:Prop} (h:p:=by
 have ht18:=act_tmp (hat 18 34 kd rfl);clear hat hoff hp;rw [hv16] at ht16;rw [hv18] at ht18
 exact Y53):p:=h
theorem Y165 {p:Prop} (h:p:=by
 refine gg hfr fun t=>?_
 go_wp2_with fail
 refine (reigned_any _ _ _).mono ?_
 exact Y85):p:=h
theorem Y166 {p:Prop} (h:p:=by
 clear h0 h hgb hos hpn hlive hlast hw1 hz1 hb1 h5 h8 hg1 ho1 hB c1 c2 hhold q
 exact Y156):p:=h
end Go.Proofs.Ytaipgdhdfpemcaa
