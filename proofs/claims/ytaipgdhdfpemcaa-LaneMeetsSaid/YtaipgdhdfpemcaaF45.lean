/- THE WALKS OF THE LANE, part 45. -/
import Derived.Test.YtaipgdhdfpemcaaF31
import Derived.Test.YtaipgdhdfpemcaaF32
import Derived.Test.YtaipgdhdfpemcaaFX
namespace Go.Proofs.Ytaipgdhdfpemcaa
set_option linter.all false
open Go.RowKit Go.Proofs.Try
set_option maxRecDepth 100000
set_option maxHeartbeats 4000000
section
variable {d:ByteArray}
theorem bne_empty_true (h:¬ d.size=0):(d != ⟨#[]⟩)=true:=by
 cases d with
 | mk a=>
  cases hb:(ByteArray.mk a==⟨#[]⟩) with
  | false=>simp [bne,hb]
  | true=>
   exfalso
   have h2:(a==#[])=true:=hb
   have h3:a=#[]:=by simpa using h2
   apply h
   show a.size=0
   rw [h3]
   rfl
theorem bne_empty_false (h:d.size=0):(d != ⟨#[]⟩)=false:=by
 have e:d=⟨#[]⟩:=by
  obtain⟨a⟩:=d
  have:a=#[]:=Array.eq_empty_of_size_eq_zero h
  rw [this]
 rw [e]
 decide
theorem empty_eq:d.toList.isEmpty = !(d != ⟨#[]⟩):=by
 rw [ByteArray.toList_eq]
 by_cases h:d.size=0
 ·rw [bne_empty_false h]
  have e:d.data=#[]:=Array.eq_empty_of_size_eq_zero h
  rw [e]
  rfl
 ·rw [bne_empty_true h]
  cases hl:d.data.toList with
  | nil=>
   exfalso
   apply h
   show d.data.size=0
   rw [<-Array.length_toList,hl]
   rfl
  | cons _ _=>rfl
end
def c32 (term index prev commit:Int) (en:Nat) (data:ByteArray) (hn:Nat) (site:Int) (pn:Nat):Bool:=
 decide (term=0)&&decide (index=0)&&decide (prev=0)&&decide (commit=0)&&decide (en=0)&&decide (data.size=0)&&decide (hn=0)&&decide (site=0)&&decide (pn=0)
section
variable {good:Bool} {data:ByteArray} {atE atN commit epoch index prev site term whE whN:Int} {ec en hc hn oc on pc pn:Nat} {eA hA oA pA:O}
theorem c32_eq:(((((((((term != 0)||(index != 0))||(prev != 0))||(commit != 0))||(decide ((0:Int)<(en:Nat))))||(data != ⟨#[]⟩))||(decide ((0:Int)<(hn:Nat))))||(site != 0))||(decide ((0:Int)<(pn:Nat)))) = !(c32 term index prev commit en data hn site pn):=by
 have hb:(data != ⟨#[]⟩) = !decide (data.size=0):=by
  exact Y201
 have hz:∀ z:Int,(z != 0) = !decide (z=0):=fun z=>by by_cases h:z=0<;>simp [h]
 have hp:∀ k:Nat,decide ((0:Int)<(k:Nat)) = !decide (k=0):=fun k=>by by_cases h:k=0<;>simp [h];omega
 rw [hb,hz,hz,hz,hz,hz,hp,hp,hp]
 simp [c32,Bool.not_and]
theorem right32 (w:World) (Q:Z) (a:Act) (mb g:Nat) (hfr:Fr 391 a [(1,mb),(4,.map (some g))]) (h:NamedIs w g [72,119,97,103,69]) (hm:Blk w mb 30 (mailC 10 term index prev commit good eA en ec data hA hn hc epoch site atN atE whN whE oA on oc pA pn pc)) (hQ:∀ a',Fr 391 a' [(1,mb),(4,.map (some g)),(186,(!(c32 term index prev commit en data hn site pn)))]->Q .normal a' w) :
 (part [1,1,1,1,1,0,0] (codeOf rightF)).wp prog Q a w:=by
 have HL116:=J (show ∀ W:World,Hid (W=w)->(Instr.lookup 147 (.map (some g)) (.int .u8 116) false).run prog W=.ok (.bool false) W from fun W hW=>by rw [hW.out];exact h.look 116 false (named_at (116,false) (by simp)).2 (named_at (116,false) (by simp)).1)
 have HL105:=J (show ∀ W:World,Hid (W=w)->(Instr.lookup 147 (.map (some g)) (.int .u8 105) false).run prog W=.ok (.bool false) W from fun W hW=>by rw [hW.out];exact h.look 105 false (named_at (105,false) (by simp)).2 (named_at (105,false) (by simp)).1)
 have HL112:=J (show ∀ W:World,Hid (W=w)->(Instr.lookup 147 (.map (some g)) (.int .u8 112) false).run prog W=.ok (.bool false) W from fun W hW=>by rw [hW.out];exact h.look 112 false (named_at (112,false) (by simp)).2 (named_at (112,false) (by simp)).1)
 have HL99:=J (show ∀ W:World,Hid (W=w)->(Instr.lookup 147 (.map (some g)) (.int .u8 99) false).run prog W=.ok (.bool false) W from fun W hW=>by rw [hW.out];exact h.look 99 false (named_at (99,false) (by simp)).2 (named_at (99,false) (by simp)).1)
 have HL103:=J (show ∀ W:World,Hid (W=w)->(Instr.lookup 147 (.map (some g)) (.int .u8 103) false).run prog W=.ok (.bool true) W from fun W hW=>by rw [hW.out];exact h.look 103 true (named_at (103,true) (by simp)).2 (named_at (103,true) (by simp)).1)
 have HL101:=J (show ∀ W:World,Hid (W=w)->(Instr.lookup 147 (.map (some g)) (.int .u8 101) false).run prog W=.ok (.bool false) W from fun W hW=>by rw [hW.out];exact h.look 101 false (named_at (101,false) (by simp)).2 (named_at (101,false) (by simp)).1)
 have HL100:=J (show ∀ W:World,Hid (W=w)->(Instr.lookup 147 (.map (some g)) (.int .u8 100) false).run prog W=.ok (.bool false) W from fun W hW=>by rw [hW.out];exact h.look 100 false (named_at (100,false) (by simp)).2 (named_at (100,false) (by simp)).1)
 have HL104:=J (show ∀ W:World,Hid (W=w)->(Instr.lookup 147 (.map (some g)) (.int .u8 104) false).run prog W=.ok (.bool false) W from fun W hW=>by rw [hW.out];exact h.look 104 false (named_at (104,false) (by simp)).2 (named_at (104,false) (by simp)).1)
 have HL69:=J (show ∀ W:World,Hid (W=w)->(Instr.lookup 147 (.map (some g)) (.int .u8 69) false).run prog W=.ok (.bool true) W from fun W hW=>by rw [hW.out];exact h.look 69 true (named_at (69,true) (by simp)).2 (named_at (69,true) (by simp)).1)
 have HL115:=J (show ∀ W:World,Hid (W=w)->(Instr.lookup 147 (.map (some g)) (.int .u8 115) false).run prog W=.ok (.bool false) W from fun W hW=>by rw [hW.out];exact h.look 115 false (named_at (115,false) (by simp)).2 (named_at (115,false) (by simp)).1)
 have HL97:=J (show ∀ W:World,Hid (W=w)->(Instr.lookup 147 (.map (some g)) (.int .u8 97) false).run prog W=.ok (.bool true) W from fun W hW=>by rw [hW.out];exact h.look 97 true (named_at (97,true) (by simp)).2 (named_at (97,true) (by simp)).1)
 have HL119:=J (show ∀ W:World,Hid (W=w)->(Instr.lookup 147 (.map (some g)) (.int .u8 119) false).run prog W=.ok (.bool true) W from fun W hW=>by rw [hW.out];exact h.look 119 true (named_at (119,true) (by simp)).2 (named_at (119,true) (by simp)).1)
 have HL79:=J (show ∀ W:World,Hid (W=w)->(Instr.lookup 147 (.map (some g)) (.int .u8 79) false).run prog W=.ok (.bool false) W from fun W hW=>by rw [hW.out];exact h.look 79 false (named_at (79,false) (by simp)).2 (named_at (79,false) (by simp)).1)
 have HL72:=J (show ∀ W:World,Hid (W=w)->(Instr.lookup 147 (.map (some g)) (.int .u8 72) false).run prog W=.ok (.bool true) W from fun W hW=>by rw [hW.out];exact h.look 72 true (named_at (72,true) (by simp)).2 (named_at (72,true) (by simp)).1)
 have ha1:a.eval (.tmp 1)=.pointer (some ⟨mb,0,none⟩):=eval_of hfr.2.2.1
 have ha4:a.eval (.tmp 4)=.map (some g):=eval_of hfr.2.2.2.1
 obtain⟨HQ,HM⟩:=J2 hQ hm
 clear hQ h hm
 obtain⟨c0,hc0⟩:∃ x,x=((term != 0)):=⟨_,rfl⟩
 obtain⟨c1,hc1⟩:∃ x,x=((index != 0)):=⟨_,rfl⟩
 obtain⟨c2,hc2⟩:∃ x,x=((c0||c1)):=⟨_,rfl⟩
 obtain⟨c3,hc3⟩:∃ x,x=((prev != 0)):=⟨_,rfl⟩
 obtain⟨c4,hc4⟩:∃ x,x=((c2||c3)):=⟨_,rfl⟩
 obtain⟨c5,hc5⟩:∃ x,x=((commit != 0)):=⟨_,rfl⟩
 obtain⟨c6,hc6⟩:∃ x,x=((c4||c5)):=⟨_,rfl⟩
 obtain⟨c7,hc7⟩:∃ x,x=((decide ((0:Int)<(en:Nat)))):=⟨_,rfl⟩
 obtain⟨c8,hc8⟩:∃ x,x=((c6||c7)):=⟨_,rfl⟩
 obtain⟨c9,hc9⟩:∃ x,x=((data != ⟨#[]⟩)):=⟨_,rfl⟩
 obtain⟨c10,hc10⟩:∃ x,x=((c8||c9)):=⟨_,rfl⟩
 obtain⟨c11,hc11⟩:∃ x,x=((decide ((0:Int)<(hn:Nat)))):=⟨_,rfl⟩
 obtain⟨c12,hc12⟩:∃ x,x=((c10||c11)):=⟨_,rfl⟩
 obtain⟨c13,hc13⟩:∃ x,x=((site != 0)):=⟨_,rfl⟩
 obtain⟨c14,hc14⟩:∃ x,x=((c12||c13)):=⟨_,rfl⟩
 obtain⟨c15,hc15⟩:∃ x,x=((decide ((0:Int)<(pn:Nat)))):=⟨_,rfl⟩
 obtain⟨c16,hc16⟩:∃ x,x=((c14||c15)):=⟨_,rfl⟩
 refine wp_region_named (c:=(part [1,1,1,1,1,0,0] (codeOf rightF))) (id:=32) kr (fun i v W=>match i with|0=>v=.map (some g)|1=>v=.bool false|2=>v=.bool true|3=>v=.bool true|4=>v=.pointer (some ⟨mb,1,none⟩)|5=>v=term|6=>v=.bool c0|7=>v=.bool c0|8=>v=.bool c0|9=>v=(bif c0 then undef else .map (some g))|10=>v=(bif c0 then undef else .bool false)|11=>v=(bif c0 then undef else .bool true)|12=>v=(bif c0 then undef else .bool true)|13=>v=(bif c0 then undef else .pointer (some ⟨mb,2,none⟩))|14=>v=(bif c0 then undef else .int .i64 index)|15=>v=(bif c0 then undef else .bool c1)|16=>v=(bif c0 then undef else .bool c1)|17=>v=.bool c2|18=>v=.bool c2|19=>v=(bif c2 then undef else .map (some g))|20=>v=(bif c2 then undef else .bool false)|21=>v=(bif c2 then undef else .bool true)|22=>v=(bif c2 then undef else .bool true)|23=>v=(bif c2 then undef else .pointer (some ⟨mb,3,none⟩))|24=>v=(bif c2 then undef else .int .i64 prev)|25=>v=(bif c2 then undef else .bool c3)|26=>v=(bif c2 then undef else .bool c3)|27=>v=.bool c4|28=>v=.bool c4|29=>v=(bif c4 then undef else .map (some g))|30=>v=(bif c4 then undef else .bool false)|31=>v=(bif c4 then undef else .bool true)|32=>v=(bif c4 then undef else .bool true)|33=>v=(bif c4 then undef else .pointer (some ⟨mb,4,none⟩))|34=>v=(bif c4 then undef else .int .i64 commit)|35=>v=(bif c4 then undef else .bool c5)|36=>v=(bif c4 then undef else .bool c5)|37=>v=.bool c6|38=>v=.bool c6|39=>v=(bif c6 then undef else .map (some g))|40=>v=(bif c6 then undef else .bool true)|41=>v=(bif c6 then undef else .bool false)|42=>v=(bif c6 then undef else .bool false)|43=>v=undef|44=>v=undef|45=>v=(bif c6 then undef else .bool false)|46=>v=.bool c6|47=>v=.bool c6|48=>v=(bif c6 then undef else .map (some g))|49=>v=(bif c6 then undef else .bool false)|50=>v=(bif c6 then undef else .bool true)|51=>v=(bif c6 then undef else .bool true)|52=>v=(bif c6 then undef else .pointer (some ⟨mb,6,none⟩))|53=>v=(bif c6 then undef else .slice eA en ec)|54=>v=(bif c6 then undef else .int .i64 (en:Nat))|55=>v=(bif c6 then undef else .bool c7)|56=>v=(bif c6 then undef else .bool c7)|57=>v=.bool c8|58=>v=.bool c8|59=>v=(bif c8 then undef else .map (some g))|60=>v=(bif c8 then undef else .bool false)|61=>v=(bif c8 then undef else .bool true)|62=>v=(bif c8 then undef else .bool true)|63=>v=(bif c8 then undef else .pointer (some ⟨mb,7,none⟩))|64=>v=(bif c8 then undef else .string data)|65=>v=(bif c8 then undef else .bool c9)|66=>v=(bif c8 then undef else .bool c9)|67=>v=.bool c10|68=>v=.bool c10|69=>v=(bif c10 then undef else .map (some g))|70=>v=(bif c10 then undef else .bool false)|71=>v=(bif c10 then undef else .bool true)|72=>v=(bif c10 then undef else .bool true)|73=>v=(bif c10 then undef else .pointer (some ⟨mb,8,none⟩))|74=>v=(bif c10 then undef else .slice hA hn hc)|75=>v=(bif c10 then undef else .int .i64 (hn:Nat))|76=>v=(bif c10 then undef else .bool c11)|77=>v=(bif c10 then undef else .bool c11)|78=>v=.bool c12|79=>v=.bool c12|80=>v=(bif c12 then undef else .map (some g))|81=>v=(bif c12 then undef else .bool true)|82=>v=(bif c12 then undef else .bool false)|83=>v=(bif c12 then undef else .bool false)|84=>v=undef|85=>v=undef|86=>v=undef|87=>v=(bif c12 then undef else .bool false)|88=>v=.bool c12|89=>v=.bool c12|90=>v=(bif c12 then undef else .map (some g))|91=>v=(bif c12 then undef else .bool false)|92=>v=(bif c12 then undef else .bool true)|93=>v=(bif c12 then undef else .bool true)|94=>v=(bif c12 then undef else .pointer (some ⟨mb,10,none⟩))|95=>v=(bif c12 then undef else .int .i64 site)|96=>v=(bif c12 then undef else .bool c13)|97=>v=(bif c12 then undef else .bool c13)|98=>v=.bool c14|99=>v=.bool c14|100=>v=(bif c14 then undef else .map (some g))|101=>v=(bif c14 then undef else .bool true)|102=>v=(bif c14 then undef else .bool false)|103=>v=(bif c14 then undef else .bool false)|104=>v=undef|105=>v=undef|106=>v=undef|107=>v=undef|108=>v=(bif c14 then undef else .bool false)|109=>v=.bool c14|110=>v=.bool c14|111=>v=(bif c14 then undef else .map (some g))|112=>v=(bif c14 then undef else .bool true)|113=>v=(bif c14 then undef else .bool false)|114=>v=(bif c14 then undef else .bool false)|115=>v=undef|116=>v=undef|117=>v=undef|118=>v=undef|119=>v=(bif c14 then undef else .bool false)|120=>v=.bool c14|121=>v=.bool c14|122=>v=(bif c14 then undef else .map (some g))|123=>v=(bif c14 then undef else .bool false)|124=>v=(bif c14 then undef else .bool true)|125=>v=(bif c14 then undef else .bool true)|126=>v=(bif c14 then undef else .pointer (some ⟨mb,16,none⟩))|127=>v=(bif c14 then undef else .slice pA pn pc)|128=>v=(bif c14 then undef else .int .i64 (pn:Nat))|129=>v=(bif c14 then undef else .bool c15)|130=>v=(bif c14 then undef else .bool c15)|131=>v=.bool c16|132=>v=.bool c16|133=>v=(bif c16 then undef else .map (some g))|134=>v=(bif c16 then undef else .bool true)|135=>v=(bif c16 then undef else .bool false)|136=>v=(bif c16 then undef else .bool false)|137=>v=undef|138=>v=undef|139=>v=undef|140=>v=undef|141=>v=(bif c16 then undef else .bool false)|142=>v=.bool c16|_=>True) (fun W=>Blk W mb 30 (mailC 10 term index prev commit good eA en ec data hA hn hc epoch site atN atE whN whE oA on oc pA pn pc)/\Hid (W=w)) (fun W W'=>True) ?hsz ?hG ?hmono ?hstep ?hend
 case hsz=>rw [hfr.2.1];kernel_rfl
 case hG=>exact⟨HM.out,J rfl⟩
 case hmono=>exact fun _ _ _ _ _ h=>h
 case hstep=>
  intro i o F U W ho hGW hat hoff hp
  have hrefl:=fun _:World=>trivial
  have:=act_tmp ((hoff 1 kd).trans ha1)
  have:=act_tmp ((hoff 4 kd).trans ha4)
  obtain⟨qa,qb⟩:=J2 hat hp
  clear hat hoff hp
  match i with
   | 0=>obtain rfl:=o1 ho;exact vna
   | 1=>obtain rfl:=o1 ho;have:=nx 0 44;have l:=HL116.out W hGW.2;exact vna
   | 2=>obtain rfl:=o1 ho;have:=nx 1 45;exact vna
   | 3=>obtain rfl:=o1 ho;have:=nx 2 46;exact vna
   | 4=>obtain rfl:=o1 ho;refine onx 3 47 ?_;exact vla
   | 5=>obtain rfl:=o1 ho;refine onx 3 47 ?_;have:=nx 4 48;have d:=hGW.1.c1 1;exact vla
   | 6=>obtain rfl:=o1 ho;rw [hc0];refine onx 3 47 ?_;have:=nx 5 49;exact vla
   | 7=>obtain rfl:=o1 ho;have:=nx 3 47;have:=nx 6 50;exact vna
   | 8=>obtain rfl:=o1 ho;have:=nx 7 51;exact vna
   | 9=>
    obtain rfl:=o1 ho
    cases q0:c0 with
    | true=>exact ofy 8 52
    | false=>refine ony 8 52 ?_;exact vla
   | 10=>
    obtain rfl:=o1 ho
    cases q0:c0 with
    | true=>exact ofy 8 52
    | false=>refine ony 8 52 ?_;have:=nY 9 53;have l:=HL105.out W hGW.2;exact vla
   | 11=>
    obtain rfl:=o1 ho
    cases q0:c0 with
    | true=>exact ofy 8 52
    | false=>refine ony 8 52 ?_;have:=nY 10 54;exact vla
   | 12=>
    obtain rfl:=o1 ho
    cases q0:c0 with
    | true=>exact ofy 8 52
    | false=>refine ony 8 52 ?_;have:=nY 11 55;exact vla
   | 13=>
    obtain rfl:=o1 ho
    cases q0:c0 with
    | true=>exact ufy 12 56
    | false=>refine ony 12 56 ?_;exact vla
   | 14=>
    obtain rfl:=o1 ho
    cases q0:c0 with
    | true=>exact ufy 12 56
    | false=>refine ony 12 56 ?_;have:=nY 13 57;have d:=hGW.1.c1 2;exact vla
   | 15=>
    obtain rfl:=o1 ho;rw [hc1]
    cases q0:c0 with
    | true=>exact ufy 12 56
    | false=>refine ony 12 56 ?_;have:=nY 14 58;exact vla
   | 16=>
    obtain rfl:=o1 ho
    cases q0:c0 with
    | true=>exact ofy 8 52
    | false=>refine ony 8 52 ?_;have:=nY 12 56;have:=nY 15 59;exact vla
   | 17=>
    obtain rfl:=o1 ho;rw [hc2];have t52:=nx 8 52
    cases qp:c0 with
    | true=>rw [qp] at t52;exact vna
    | false=>rw [qp] at t52;have:=nZ 16 60;exact vna
   | 18=>obtain rfl:=o1 ho;have:=nx 17 61;exact vna
   | 19=>
    obtain rfl:=o1 ho
    cases q0:c2 with
    | true=>exact ofy 18 62
    | false=>refine ony 18 62 ?_;exact vla
   | 20=>
    obtain rfl:=o1 ho
    cases q0:c2 with
    | true=>exact ofy 18 62
    | false=>refine ony 18 62 ?_;have:=nY 19 63;have l:=HL112.out W hGW.2;exact vla
   | 21=>
    obtain rfl:=o1 ho
    cases q0:c2 with
    | true=>exact ofy 18 62
    | false=>refine ony 18 62 ?_;have:=nY 20 64;exact vla
   | 22=>
    obtain rfl:=o1 ho
    cases q0:c2 with
    | true=>exact ofy 18 62
    | false=>refine ony 18 62 ?_;have:=nY 21 65;exact vla
   | 23=>
    obtain rfl:=o1 ho
    cases q0:c2 with
    | true=>exact ufy 22 66
    | false=>refine ony 22 66 ?_;exact vla
   | 24=>
    obtain rfl:=o1 ho
    cases q0:c2 with
    | true=>exact ufy 22 66
    | false=>refine ony 22 66 ?_;have:=nY 23 67;have d:=hGW.1.c1 3;exact vla
   | 25=>
    obtain rfl:=o1 ho;rw [hc3]
    cases q0:c2 with
    | true=>exact ufy 22 66
    | false=>refine ony 22 66 ?_;have:=nY 24 68;exact vla
   | 26=>
    obtain rfl:=o1 ho
    cases q0:c2 with
    | true=>exact ofy 18 62
    | false=>refine ony 18 62 ?_;have:=nY 22 66;have:=nY 25 69;exact vla
   | 27=>
    obtain rfl:=o1 ho;rw [hc4];have t62:=nx 18 62
    cases qp:c2 with
    | true=>rw [qp] at t62;exact vna
    | false=>rw [qp] at t62;have:=nZ 26 70;exact vna
   | 28=>obtain rfl:=o1 ho;have:=nx 27 71;exact vna
   | 29=>
    obtain rfl:=o1 ho
    cases q0:c4 with
    | true=>exact ofy 28 72
    | false=>refine ony 28 72 ?_;exact vla
   | 30=>
    obtain rfl:=o1 ho
    cases q0:c4 with
    | true=>exact ofy 28 72
    | false=>refine ony 28 72 ?_;have:=nY 29 73;have l:=HL99.out W hGW.2;exact vla
   | 31=>
    obtain rfl:=o1 ho
    cases q0:c4 with
    | true=>exact ofy 28 72
    | false=>refine ony 28 72 ?_;have:=nY 30 74;exact vla
   | 32=>
    obtain rfl:=o1 ho
    cases q0:c4 with
    | true=>exact ofy 28 72
    | false=>refine ony 28 72 ?_;have:=nY 31 75;exact vla
   | 33=>
    obtain rfl:=o1 ho
    cases q0:c4 with
    | true=>exact ufy 32 76
    | false=>refine ony 32 76 ?_;exact vla
   | 34=>
    obtain rfl:=o1 ho
    cases q0:c4 with
    | true=>exact ufy 32 76
    | false=>refine ony 32 76 ?_;have:=nY 33 77;have d:=hGW.1.c1 4;exact vla
   | 35=>
    obtain rfl:=o1 ho;rw [hc5]
    cases q0:c4 with
    | true=>exact ufy 32 76
    | false=>refine ony 32 76 ?_;have:=nY 34 78;exact vla
   | 36=>
    obtain rfl:=o1 ho
    cases q0:c4 with
    | true=>exact ofy 28 72
    | false=>refine ony 28 72 ?_;have:=nY 32 76;have:=nY 35 79;exact vla
   | 37=>
    obtain rfl:=o1 ho;rw [hc6];have t72:=nx 28 72
    cases qp:c4 with
    | true=>rw [qp] at t72;exact vna
    | false=>rw [qp] at t72;have:=nZ 36 80;exact vna
   | 38=>obtain rfl:=o1 ho;have:=nx 37 81;exact vna
   | 39=>
    obtain rfl:=o1 ho
    cases q0:c6 with
    | true=>exact ofy 38 82
    | false=>refine ony 38 82 ?_;exact vla
   | 40=>
    obtain rfl:=o1 ho
    cases q0:c6 with
    | true=>exact ofy 38 82
    | false=>refine ony 38 82 ?_;have:=nY 39 83;have l:=HL103.out W hGW.2;exact vla
   | 41=>
    obtain rfl:=o1 ho
    cases q0:c6 with
    | true=>exact ofy 38 82
    | false=>refine ony 38 82 ?_;have:=nY 40 84;exact vla
   | 42=>
    obtain rfl:=o1 ho
    cases q0:c6 with
    | true=>exact ofy 38 82
    | false=>refine ony 38 82 ?_;have:=nY 41 85;exact vla
   | 43|44=>
    obtain rfl:=o1 ho
    cases q0:c6 with
    | true=>exact ufy 42 86
    | false=>exact ofy 42 86
   | 45=>
    obtain rfl:=o1 ho
    cases q0:c6 with
    | true=>exact ofy 38 82
    | false=>refine ony 38 82 ?_;have:=nY 42 86;exact vla
   | 46=>
    obtain rfl:=o1 ho;have t82:=nx 38 82
    cases qp:c6 with
    | true=>rw [qp] at t82;exact vna
    | false=>rw [qp] at t82;have:=nZ 45 89;exact vna
   | 47=>obtain rfl:=o1 ho;have:=nx 46 90;exact vna
   | 48=>
    obtain rfl:=o1 ho
    cases q0:c6 with
    | true=>exact ofy 47 91
    | false=>refine ony 47 91 ?_;exact vla
   | 49=>
    obtain rfl:=o1 ho
    cases q0:c6 with
    | true=>exact ofy 47 91
    | false=>refine ony 47 91 ?_;have:=nY 48 92;have l:=HL101.out W hGW.2;exact vla
   | 50=>
    obtain rfl:=o1 ho
    cases q0:c6 with
    | true=>exact ofy 47 91
    | false=>refine ony 47 91 ?_;have:=nY 49 93;exact vla
   | 51=>
    obtain rfl:=o1 ho
    cases q0:c6 with
    | true=>exact ofy 47 91
    | false=>refine ony 47 91 ?_;have:=nY 50 94;exact vla
   | 52=>
    obtain rfl:=o1 ho
    cases q0:c6 with
    | true=>exact ufy 51 95
    | false=>refine ony 51 95 ?_;exact vla
   | 53=>
    obtain rfl:=o1 ho
    cases q0:c6 with
    | true=>exact ufy 51 95
    | false=>refine ony 51 95 ?_;have:=nY 52 96;have d:=hGW.1.c1 6;exact vla
   | 54=>
    obtain rfl:=o1 ho
    cases q0:c6 with
    | true=>exact ufy 51 95
    | false=>refine ony 51 95 ?_;have:=nY 53 97;exact vla
   | 55=>
    obtain rfl:=o1 ho;rw [hc7]
    cases q0:c6 with
    | true=>exact ufy 51 95
    | false=>refine ony 51 95 ?_;have:=nY 54 98;exact vla
   | 56=>
    obtain rfl:=o1 ho
    cases q0:c6 with
    | true=>exact ofy 47 91
    | false=>refine ony 47 91 ?_;have:=nY 51 95;have:=nY 55 99;exact vla
   | 57=>
    obtain rfl:=o1 ho;rw [hc8];have t91:=nx 47 91
    cases qp:c6 with
    | true=>rw [qp] at t91;exact vna
    | false=>rw [qp] at t91;have:=nZ 56 100;exact vna
   | 58=>obtain rfl:=o1 ho;have:=nx 57 101;exact vna
   | 59=>
    obtain rfl:=o1 ho
    cases q0:c8 with
    | true=>exact ofy 58 102
    | false=>refine ony 58 102 ?_;exact vla
   | 60=>
    obtain rfl:=o1 ho
    cases q0:c8 with
    | true=>exact ofy 58 102
    | false=>refine ony 58 102 ?_;have:=nY 59 103;have l:=HL100.out W hGW.2;exact vla
   | 61=>
    obtain rfl:=o1 ho
    cases q0:c8 with
    | true=>exact ofy 58 102
    | false=>refine ony 58 102 ?_;have:=nY 60 104;exact vla
   | 62=>
    obtain rfl:=o1 ho
    cases q0:c8 with
    | true=>exact ofy 58 102
    | false=>refine ony 58 102 ?_;have:=nY 61 105;exact vla
   | 63=>
    obtain rfl:=o1 ho
    cases q0:c8 with
    | true=>exact ufy 62 106
    | false=>refine ony 62 106 ?_;exact vla
   | 64=>
    obtain rfl:=o1 ho
    cases q0:c8 with
    | true=>exact ufy 62 106
    | false=>refine ony 62 106 ?_;have:=nY 63 107;have d:=hGW.1.c1 7;exact vla
   | 65=>
    obtain rfl:=o1 ho;rw [hc9]
    cases q0:c8 with
    | true=>exact ufy 62 106
    | false=>
     refine ony 62 106 ?_;have:=nY 64 108
     exact vla (h:=by unfold execOp;go_simp;exact empty_eq)
   | 66=>
    obtain rfl:=o1 ho
    cases q0:c8 with
    | true=>exact ofy 58 102
    | false=>refine ony 58 102 ?_;have:=nY 62 106;have:=nY 65 109;exact vla
   | 67=>
    obtain rfl:=o1 ho;rw [hc10];have t102:=nx 58 102
    cases qp:c8 with
    | true=>rw [qp] at t102;exact vna
    | false=>rw [qp] at t102;have:=nZ 66 110;exact vna
   | 68=>obtain rfl:=o1 ho;have:=nx 67 111;exact vna
   | 69=>
    obtain rfl:=o1 ho
    cases q0:c10 with
    | true=>exact ofy 68 112
    | false=>refine ony 68 112 ?_;exact vla
   | 70=>
    obtain rfl:=o1 ho
    cases q0:c10 with
    | true=>exact ofy 68 112
    | false=>refine ony 68 112 ?_;have:=nY 69 113;have l:=HL104.out W hGW.2;exact vla
   | 71=>
    obtain rfl:=o1 ho
    cases q0:c10 with
    | true=>exact ofy 68 112
    | false=>refine ony 68 112 ?_;have:=nY 70 114;exact vla
   | 72=>
    obtain rfl:=o1 ho
    cases q0:c10 with
    | true=>exact ofy 68 112
    | false=>refine ony 68 112 ?_;have:=nY 71 115;exact vla
   | 73=>
    obtain rfl:=o1 ho
    cases q0:c10 with
    | true=>exact ufy 72 116
    | false=>refine ony 72 116 ?_;exact vla
   | 74=>
    obtain rfl:=o1 ho
    cases q0:c10 with
    | true=>exact ufy 72 116
    | false=>refine ony 72 116 ?_;have:=nY 73 117;have d:=hGW.1.c1 8;exact vla
   | 75=>
    obtain rfl:=o1 ho
    cases q0:c10 with
    | true=>exact ufy 72 116
    | false=>refine ony 72 116 ?_;have:=nY 74 118;exact vla
   | 76=>
    obtain rfl:=o1 ho;rw [hc11]
    cases q0:c10 with
    | true=>exact ufy 72 116
    | false=>refine ony 72 116 ?_;have:=nY 75 119;exact vla
   | 77=>
    obtain rfl:=o1 ho
    cases q0:c10 with
    | true=>exact ofy 68 112
    | false=>refine ony 68 112 ?_;have:=nY 72 116;have:=nY 76 120;exact vla
   | 78=>
    obtain rfl:=o1 ho;rw [hc12];have t112:=nx 68 112
    cases qp:c10 with
    | true=>rw [qp] at t112;exact vna
    | false=>rw [qp] at t112;have:=nZ 77 121;exact vna
   | 79=>obtain rfl:=o1 ho;have:=nx 78 122;exact vna
   | 80=>
    obtain rfl:=o1 ho
    cases q0:c12 with
    | true=>exact ofy 79 123
    | false=>refine ony 79 123 ?_;exact vla
   | 81=>
    obtain rfl:=o1 ho
    cases q0:c12 with
    | true=>exact ofy 79 123
    | false=>refine ony 79 123 ?_;have:=nY 80 124;have l:=HL69.out W hGW.2;exact vla
   | 82=>
    obtain rfl:=o1 ho
    cases q0:c12 with
    | true=>exact ofy 79 123
    | false=>refine ony 79 123 ?_;have:=nY 81 125;exact vla
   | 83=>
    obtain rfl:=o1 ho
    cases q0:c12 with
    | true=>exact ofy 79 123
    | false=>refine ony 79 123 ?_;have:=nY 82 126;exact vla
   | 84|85|86=>
    obtain rfl:=o1 ho
    cases q0:c12 with
    | true=>exact ufy 83 127
    | false=>exact ofy 83 127
   | 87=>
    obtain rfl:=o1 ho
    cases q0:c12 with
    | true=>exact ofy 79 123
    | false=>refine ony 79 123 ?_;have:=nY 83 127;exact vla
   | 88=>
    obtain rfl:=o1 ho;have t123:=nx 79 123
    cases qp:c12 with
    | true=>rw [qp] at t123;exact vna
    | false=>rw [qp] at t123;have:=nZ 87 131;exact vna
   | 89=>obtain rfl:=o1 ho;have:=nx 88 132;exact vna
   | 90=>
    obtain rfl:=o1 ho
    cases q0:c12 with
    | true=>exact ofy 89 133
    | false=>refine ony 89 133 ?_;exact vla
   | 91=>
    obtain rfl:=o1 ho
    cases q0:c12 with
    | true=>exact ofy 89 133
    | false=>refine ony 89 133 ?_;have:=nY 90 134;have l:=HL115.out W hGW.2;exact vla
   | 92=>
    obtain rfl:=o1 ho
    cases q0:c12 with
    | true=>exact ofy 89 133
    | false=>refine ony 89 133 ?_;have:=nY 91 135;exact vla
   | 93=>
    obtain rfl:=o1 ho
    cases q0:c12 with
    | true=>exact ofy 89 133
    | false=>refine ony 89 133 ?_;have:=nY 92 136;exact vla
   | 94=>
    obtain rfl:=o1 ho
    cases q0:c12 with
    | true=>exact ufy 93 137
    | false=>refine ony 93 137 ?_;exact vla
   | 95=>
    obtain rfl:=o1 ho
    cases q0:c12 with
    | true=>exact ufy 93 137
    | false=>refine ony 93 137 ?_;have:=nY 94 138;have d:=hGW.1.c1 10;exact vla
   | 96=>
    obtain rfl:=o1 ho;rw [hc13]
    cases q0:c12 with
    | true=>exact ufy 93 137
    | false=>refine ony 93 137 ?_;have:=nY 95 139;exact vla
   | 97=>
    obtain rfl:=o1 ho
    cases q0:c12 with
    | true=>exact ofy 89 133
    | false=>refine ony 89 133 ?_;have:=nY 93 137;have:=nY 96 140;exact vla
   | 98=>
    obtain rfl:=o1 ho;rw [hc14];have t133:=nx 89 133
    cases qp:c12 with
    | true=>rw [qp] at t133;exact vna
    | false=>rw [qp] at t133;have:=nZ 97 141;exact vna
   | 99=>obtain rfl:=o1 ho;have:=nx 98 142;exact vna
   | 100=>
    obtain rfl:=o1 ho
    cases q0:c14 with
    | true=>exact ofy 99 143
    | false=>refine ony 99 143 ?_;exact vla
   | 101=>
    obtain rfl:=o1 ho
    cases q0:c14 with
    | true=>exact ofy 99 143
    | false=>refine ony 99 143 ?_;have:=nY 100 144;have l:=HL97.out W hGW.2;exact vla
   | 102=>
    obtain rfl:=o1 ho
    cases q0:c14 with
    | true=>exact ofy 99 143
    | false=>refine ony 99 143 ?_;have:=nY 101 145;exact vla
   | 103=>
    obtain rfl:=o1 ho
    cases q0:c14 with
    | true=>exact ofy 99 143
    | false=>refine ony 99 143 ?_;have:=nY 102 146;exact vla
   | 104|105|106|107=>
    obtain rfl:=o1 ho
    cases q0:c14 with
    | true=>exact ufy 103 147
    | false=>exact ofy 103 147
   | 108=>
    obtain rfl:=o1 ho
    cases q0:c14 with
    | true=>exact ofy 99 143
    | false=>refine ony 99 143 ?_;have:=nY 103 147;exact vla
   | 109=>
    obtain rfl:=o1 ho;have t143:=nx 99 143
    cases qp:c14 with
    | true=>rw [qp] at t143;exact vna
    | false=>rw [qp] at t143;have:=nZ 108 152;exact vna
   | 110=>obtain rfl:=o1 ho;have:=nx 109 153;exact vna
   | 111=>
    obtain rfl:=o1 ho
    cases q0:c14 with
    | true=>exact ofy 110 154
    | false=>refine ony 110 154 ?_;exact vla
   | 112=>
    obtain rfl:=o1 ho
    cases q0:c14 with
    | true=>exact ofy 110 154
    | false=>refine ony 110 154 ?_;have:=nY 111 155;have l:=HL119.out W hGW.2;exact vla
   | 113=>
    obtain rfl:=o1 ho
    cases q0:c14 with
    | true=>exact ofy 110 154
    | false=>refine ony 110 154 ?_;have:=nY 112 156;exact vla
   | 114=>
    obtain rfl:=o1 ho
    cases q0:c14 with
    | true=>exact ofy 110 154
    | false=>refine ony 110 154 ?_;have:=nY 113 157;exact vla
   | 115|116|117|118=>
    obtain rfl:=o1 ho
    cases q0:c14 with
    | true=>exact ufy 114 158
    | false=>exact ofy 114 158
   | 119=>
    obtain rfl:=o1 ho
    cases q0:c14 with
    | true=>exact ofy 110 154
    | false=>refine ony 110 154 ?_;have:=nY 114 158;exact vla
   | 120=>
    obtain rfl:=o1 ho;have t154:=nx 110 154
    cases qp:c14 with
    | true=>rw [qp] at t154;exact vna
    | false=>rw [qp] at t154;have:=nZ 119 163;exact vna
   | 121=>obtain rfl:=o1 ho;have:=nx 120 164;exact vna
   | 122=>
    obtain rfl:=o1 ho
    cases q0:c14 with
    | true=>exact ofy 121 165
    | false=>refine ony 121 165 ?_;exact vla
   | 123=>
    obtain rfl:=o1 ho
    cases q0:c14 with
    | true=>exact ofy 121 165
    | false=>refine ony 121 165 ?_;have:=nY 122 166;have l:=HL79.out W hGW.2;exact vla
   | 124=>
    obtain rfl:=o1 ho
    cases q0:c14 with
    | true=>exact ofy 121 165
    | false=>refine ony 121 165 ?_;have:=nY 123 167;exact vla
   | 125=>
    obtain rfl:=o1 ho
    cases q0:c14 with
    | true=>exact ofy 121 165
    | false=>refine ony 121 165 ?_;have:=nY 124 168;exact vla
   | 126=>
    obtain rfl:=o1 ho
    cases q0:c14 with
    | true=>exact ufy 125 169
    | false=>refine ony 125 169 ?_;exact vla
   | 127=>
    obtain rfl:=o1 ho
    cases q0:c14 with
    | true=>exact ufy 125 169
    | false=>refine ony 125 169 ?_;have:=nY 126 170;have d:=hGW.1.c1 16;exact vla
   | 128=>
    obtain rfl:=o1 ho
    cases q0:c14 with
    | true=>exact ufy 125 169
    | false=>refine ony 125 169 ?_;have:=nY 127 171;exact vla
   | 129=>
    obtain rfl:=o1 ho;rw [hc15]
    cases q0:c14 with
    | true=>exact ufy 125 169
    | false=>refine ony 125 169 ?_;have:=nY 128 172;exact vla
   | 130=>
    obtain rfl:=o1 ho
    cases q0:c14 with
    | true=>exact ofy 121 165
    | false=>refine ony 121 165 ?_;have:=nY 125 169;have:=nY 129 173;exact vla
   | 131=>
    obtain rfl:=o1 ho;rw [hc16];have t165:=nx 121 165
    cases qp:c14 with
    | true=>rw [qp] at t165;exact vna
    | false=>rw [qp] at t165;have:=nZ 130 174;exact vna
   | 132=>obtain rfl:=o1 ho;have:=nx 131 175;exact vna
   | 133=>
    obtain rfl:=o1 ho
    cases q0:c16 with
    | true=>exact ofy 132 176
    | false=>refine ony 132 176 ?_;exact vla
   | 134=>
    obtain rfl:=o1 ho
    cases q0:c16 with
    | true=>exact ofy 132 176
    | false=>refine ony 132 176 ?_;have:=nY 133 177;have l:=HL72.out W hGW.2;exact vla
   | 135=>
    obtain rfl:=o1 ho
    cases q0:c16 with
    | true=>exact ofy 132 176
    | false=>refine ony 132 176 ?_;have:=nY 134 178;exact vla
   | 136=>
    obtain rfl:=o1 ho
    cases q0:c16 with
    | true=>exact ofy 132 176
    | false=>refine ony 132 176 ?_;have:=nY 135 179;exact vla
   | 137|138|139|140=>
    obtain rfl:=o1 ho
    cases q0:c16 with
    | true=>exact ufy 136 180
    | false=>exact ofy 136 180
   | 141=>
    obtain rfl:=o1 ho
    cases q0:c16 with
    | true=>exact ofy 132 176
    | false=>refine ony 132 176 ?_;have:=nY 136 180;exact vla
   | 142=>
    obtain rfl:=o1 ho;have t176:=nx 132 176
    cases qp:c16 with
    | true=>rw [qp] at t176;exact vna
    | false=>rw [qp] at t176;have:=nZ 141 185;exact vna
   | i+143=>exact (none_past (n:=143) kr ho).elim
 case hend=>
  intro U W hGW hV
  have hx:U 142=.bool c16:=hV 142 kd
  have hw:W=w:=hGW.2.out
  subst hw
  refine HQ.out _ ⟨?_,?_,?_,?_,?_,trivial⟩
  ·rw [putU_defers];exact hfr.1
  ·rw [putU_size];exact hfr.2.1
  ·rw [putU_old 1 kd];exact hfr.2.2.1
  ·rw [putU_old 4 kd];exact hfr.2.2.2.1
  ·rw [putU_get (by rw [hfr.2.1];kernel_rfl) 142 186 kd kr,hx,hc16,hc15,hc14,hc13,hc12,hc11,hc10,hc9,hc8,hc7,hc6,hc5,hc4,hc3,hc2,hc1,hc0,c32_eq]
end
end Go.Proofs.Ytaipgdhdfpemcaa
