/- THE WALKS OF THE LANE, part 14. -/
import Derived.Test.YtaipgdhdfpemcaaG12
namespace Go.Proofs.Ytaipgdhdfpemcaa
set_option linter.all false
open Go.RowKit Go.Proofs.Try
set_option maxRecDepth 100000
set_option maxHeartbeats 4000000
def hasB (cs:List OpC) (N E:Int):Bool:=(decide (N=0)&&decide (E=0))||(decide (1<=N)&&(decide (N<=cs.length)&&match cs[(N-1).toNat]? with|some c=>decide (c.n=N)&&decide (c.epoch=E)|none=>false))
section
variable {ad:Addr} {E N:Int} {c1 cap g hc hn k n:Nat} {A hA:O}
section
variable (w:World) (hg:Blk w g 26 #[N,E])
include w hg
theorem has_zero (hN:N=0) (hE:E=0) :
 Calls prog 54 #[.slice A n cap,.slice (some ⟨g,0,none⟩) 1 c1] w fun x w'=>x=.returned (.bool true)/\Below w w w':=by
 obtain⟨hc0,hc1⟩:=hg.cs 0 2
 clear hg
 subst hN hE
 go_enter func54,ntmps54
 go_wp2_with fail
 go_loopw [9] (fun i wr=>(i=.int .i64 0/\w=wr)\/(i=.int .i64 1/\Below w w wr)) (fun i _=>1-(intOf i).toNat)
 case atStart=>exact .inl ⟨rfl,rfl⟩
 case round=>
  rcases hrel with ⟨rfl,rfl⟩|⟨rfl,hb⟩
  ·go_wp2_with fail
   go_quiet (fail)
   go_wp2
   go_roundw
   case rel=>exact .inr ⟨by go_num,below_drewN ((Below.refl _ _).alloc (Nat.le_refl _) _) _⟩
   case measure=>simp [intOf]
  ·go_wp2
   go_ret
   exact⟨rfl,hb⟩
theorem has_low (hN:N<1) (hNE:¬ (N=0/\E=0)) :
 Calls prog 54 #[.slice A n cap,.slice (some ⟨g,0,none⟩) 1 c1] w fun x w'=>x=.returned (.bool false)/\Below w w w':=by
 obtain⟨hc0,hc1⟩:=hg.cs 0 2
 have hba:Below w w (w.alloc (.cells #[N,E] 26)):=(Below.refl _ _).alloc (Nat.le_refl _) _
 have HBA:=J hba
 have HBK:=J (Blk.new w 26 #[N,E])
 clear hg hba
 go_enter func54,ntmps54
 go_wp2_with fail
 go_loopw [9] (fun i wr=>i=.int .i64 0/\w=wr) (fun _ _=>0)
 case atStart=>exact⟨rfl,rfl⟩
 case round=>
  obtain⟨rfl,rfl⟩:=hrel
  go_wp2_with fail
  refine wp_region_all kr (fun i v W=>match i with|0=>v=.agg #[N,E]|1=>v=.agg #[.int .i64 0,.int .i64 0]|2=>v=.bool true|3=>v=.bool true|4=>v=.pointer (some ⟨w.heap.size,0,none⟩)|5=>v=N|6=>v=.bool true|7=>v=.bool true|8=>v=undef|9=>v=undef|10=>v=undef|11=>v=undef|12=>v=undef|13=>v=.bool true|14=>v=.bool true|15=>v=undef|16=>v=undef|17=>v=undef|18=>v=undef|19=>v=undef|20=>v=undef|21=>v=undef|22=>v=undef|23=>v=undef|24=>v=.bool true|25=>v=.bool true|_=>True) (fun W=>Below w w W/\Blk W w 26 #[N,E]) (fun W W'=>Below W W W') kr ?hG ?hmono ?hstep ?hend
  case hG=>exact⟨HBA.out.drew,HBK.out.drew⟩
  case hmono=>
   intro i v W W' _ hv
   match i with
   | 0|1|2|3|4|5|6|7|8|9|10|11|12|13|14|15|16|17|18|19|20|21|22|23|24|25=>exact hv
   | i+26=>exact hv
  case hstep=>
   intro i o F U W ho hGW hat hoff hp
   have hrefl:=fun W:World=>Below.refl W.heap.size W
   have:=ot 0 (.slice A n cap)
   have:=ot 6 (.pointer (some ⟨w.heap.size,0,none⟩))
   obtain⟨qa,qb⟩:=J2 hat hp
   clear hat hoff hp
   match i with
    | 0=>
     exact Y88
    | 1=>cases ho;exact vno
    | 2=>
     exact Y97
    | 3=>cases ho;have:=tx 2 15;exact vna
    | 4=>cases ho;refine onv 3 16 ?_;exact vlo
    | 5=>
     cases ho;refine onv 3 16 ?_;have:=tx 4 17;have c0:=hGW.2.c1 0
     exact Y94
    | 6=>cases ho;refine onv 3 16 ?_;have:=tx 5 18;exact vlo
    | 7=>cases ho;refine onv 3 16 ?_;have:=tx 6 19;exact vla
    | 8|9|10|11|12=>cases ho;exact ofv 7 20
    | 13=>cases ho;refine onv 3 16 ?_;have:=tx 7 20;exact vlo
    | 14=>cases ho;refine onv 3 16 ?_;have:=tx 13 26;exact vla
    | 15|16|17|18|19|20|21|22|23=>cases ho;exact ofv 14 27
    | 24=>cases ho;refine onv 3 16 ?_;have:=tx 14 27;exact vlo
    | 25=>cases ho;have:=tx 3 16;have:=tx 24 37;exact vno
    | i+26=>exact absurd ho (by simp)
  case hend=>
   exact Y40
theorem has_high (hN:1<=N) (hNn:(n:Int)<N) :
 Calls prog 54 #[.slice A n cap,.slice (some ⟨g,0,none⟩) 1 c1] w fun x w'=>x=.returned (.bool false)/\Below w w w':=by
 obtain⟨hc0,hc1⟩:=hg.cs 0 2
 have hba:Below w w (w.alloc (.cells #[N,E] 26)):=(Below.refl _ _).alloc (Nat.le_refl _) _
 have HBA:=J hba
 have HBK:=J (Blk.new w 26 #[N,E])
 clear hg hba
 go_enter func54,ntmps54
 go_wp2_with fail
 go_loopw [9] (fun i wr=>i=.int .i64 0/\w=wr) (fun _ _=>0)
 case atStart=>exact⟨rfl,rfl⟩
 case round=>
  obtain⟨rfl,rfl⟩:=hrel
  go_wp2_with fail
  refine wp_region_all kr (fun i v W=>match i with|0=>v=.agg #[N,E]|1=>v=.agg #[.int .i64 0,.int .i64 0]|2=>v=.bool true|3=>v=.bool true|4=>v=.pointer (some ⟨w.heap.size,0,none⟩)|5=>v=N|6=>v=.bool false|7=>v=.bool false|8=>v=.pointer (some ⟨w.heap.size,0,none⟩)|9=>v=N|10=>v=.slice A n cap|11=>v=.int .i64 (n:Nat)|12=>v=.bool true|13=>v=.bool true|14=>v=.bool true|15=>v=undef|16=>v=undef|17=>v=undef|18=>v=undef|19=>v=undef|20=>v=undef|21=>v=undef|22=>v=undef|23=>v=undef|24=>v=.bool true|25=>v=.bool true|_=>True) (fun W=>Below w w W/\Blk W w 26 #[N,E]) (fun W W'=>Below W W W') kr ?hG ?hmono ?hstep ?hend
  case hG=>exact⟨HBA.out.drew,HBK.out.drew⟩
  case hmono=>
   intro i v W W' _ hv
   match i with
   | 0|1|2|3|4|5|6|7|8|9|10|11|12|13|14|15|16|17|18|19|20|21|22|23|24|25=>exact hv
   | i+26=>exact hv
  case hstep=>
   intro i o F U W ho hGW hat hoff hp
   have hrefl:=fun W:World=>Below.refl W.heap.size W
   have:=ot 0 (.slice A n cap)
   have:=ot 6 (.pointer (some ⟨w.heap.size,0,none⟩))
   obtain⟨qa,qb⟩:=J2 hat hp
   clear hat hoff hp
   match i with
    | 0=>
     exact Y88
    | 1=>cases ho;exact vno
    | 2=>
     exact Y97
    | 3=>cases ho;have:=tx 2 15;exact vna
    | 4=>cases ho;refine onv 3 16 ?_;exact vlo
    | 5=>
     cases ho;refine onv 3 16 ?_;have:=tx 4 17;have c0:=hGW.2.c1 0
     exact Y94
    | 6=>cases ho;refine onv 3 16 ?_;have:=tx 5 18;exact vlo
    | 7=>cases ho;refine onv 3 16 ?_;have:=tx 6 19;exact vla
    | 8=>cases ho;refine onv 7 20 ?_;exact vlo
    | 9=>
     cases ho;refine onv 7 20 ?_;have:=tx 8 21;have c0:=hGW.2.c1 0
     exact Y94
    | 10=>cases ho;refine onv 7 20 ?_;exact vla
    | 11=>cases ho;refine onv 7 20 ?_;have:=tx 10 23;exact vlo
    | 12=>cases ho;refine onv 7 20 ?_;have:=tx 9 22;have:=tx 11 24;exact vlo
    | 13=>cases ho;refine onv 3 16 ?_;have:=tx 7 20;have:=tx 12 25;exact vlo
    | 14=>cases ho;refine onv 3 16 ?_;have:=tx 13 26;exact vla
    | 15|16|17|18|19|20|21|22|23=>cases ho;exact ofv 14 27
    | 24=>cases ho;refine onv 3 16 ?_;have:=tx 14 27;exact vlo
    | 25=>cases ho;have:=tx 3 16;have:=tx 24 37;exact vno
    | i+26=>exact absurd ho (by simp)
  case hend=>
   exact Y40
end
section
variable (c:OpC) (w:World) (hg:Blk w g 26 #[.int .i64 ((k:Int)+1),E]) (hk:k<n) (hz:n<=4294967296) (hab:(ad.add (k*9)).block<w) (hop:OpAt w (ad.add (k*9)) (c.at_ hA hn hc))
include c w hg hk hz hab hop
theorem has_not (hne:¬ (c.n=(k:Int)+1/\c.epoch=E)) :
 Calls prog 54 #[.slice (some ad) n cap,.slice (some ⟨g,0,none⟩) 1 c1] w fun x w'=>x=.returned (.bool false)/\Below w w w':=by
 obtain⟨hc0,hc1⟩:=hg.cs 0 2
 have hba:Below w w (w.alloc (.cells #[.int .i64 ((k:Int)+1),E] 26)):=(Below.refl _ _).alloc (Nat.le_refl _) _
 have HBA:=J hba
 have HBK:=J (Blk.new w 26 #[.int .i64 ((k:Int)+1),E])
 clear hg hba
 obtain⟨x1,x2,x3,x4,x5,x6,x7,x8,x9⟩:=c
 simp only [OpC.at_] at hop hne
 obtain⟨HP,HAB⟩:=J2 hop hab
 clear hop hab
 have b1:(0:Int)<=(k:Int):=by omega
 have b2:(k:Int)<(n:Int):=by omega
 go_enter func54,ntmps54
 go_wp2_with fail
 go_loopw [9] (fun i wr=>i=.int .i64 0/\w=wr) (fun _ _=>0)
 case atStart=>exact⟨rfl,rfl⟩
 case round=>
  obtain⟨rfl,rfl⟩:=hrel
  go_wp2_with fail
  refine wp_region_all kr (fun i v W=>match i with|0=>v=.agg #[.int .i64 ((k:Int)+1),E]|1=>v=.agg #[.int .i64 0,.int .i64 0]|2=>v=.bool true|3=>v=.bool true|4=>v=.pointer (some ⟨w.heap.size,0,none⟩)|5=>v=.int .i64 ((k:Int)+1)|6=>v=.bool false|7=>v=.bool false|8=>v=.pointer (some ⟨w.heap.size,0,none⟩)|9=>v=.int .i64 ((k:Int)+1)|10=>v=.slice (some ad) n cap|11=>v=.int .i64 (n:Nat)|12=>v=.bool false|13=>v=.bool false|14=>v=.bool false|15=>v=.slice (some ad) n cap|16=>v=.pointer (some ⟨w.heap.size,0,none⟩)|17=>v=.int .i64 ((k:Int)+1)|18=>v=.int .i64 (k:Nat)|19=>v=.pointer (some (ad.add (k*9)))|20=>v=.agg #[.int .i64 x1,.int .i64 x2,.int .i64 x3,.int .i64 x4,.int .i64 x5,.int .i64 x6,.string x7,.int .i64 x8,.slice hA hn hc]|21=>v=.agg #[.int .i64 x1,.int .i64 x2]|22=>v=.agg #[.int .i64 ((k:Int)+1),E]|23=>v=.bool true|24=>v=.bool true|25=>v=.bool true|_=>True) (fun W=>Below w w W/\Blk W w 26 #[.int .i64 ((k:Int)+1),E]) (fun W W'=>Below W W W') kr ?hG ?hmono ?hstep ?hend
  case hG=>exact⟨HBA.out.drew,HBK.out.drew⟩
  case hmono=>
   intro i v W W' _ hv
   match i with
   | 0|1|2|3|4|5|6|7|8|9|10|11|12|13|14|15|16|17|18|19|20|21|22|23|24|25=>exact hv
   | i+26=>exact hv
  case hstep=>
   exact Y3
  case hend=>
   exact Y40
theorem has_yes (hne:c.n=(k:Int)+1/\c.epoch=E) :
 Calls prog 54 #[.slice (some ad) n cap,.slice (some ⟨g,0,none⟩) 1 c1] w fun x w'=>x=.returned (.bool true)/\Below w w w':=by
 obtain⟨hc0,hc1⟩:=hg.cs 0 2
 have hba:Below w w (w.alloc (.cells #[.int .i64 ((k:Int)+1),E] 26)):=(Below.refl _ _).alloc (Nat.le_refl _) _
 have HBA:=J hba
 have HBK:=J (Blk.new w 26 #[.int .i64 ((k:Int)+1),E])
 clear hg hba
 obtain⟨x1,x2,x3,x4,x5,x6,x7,x8,x9⟩:=c
 simp only [OpC.at_] at hop hne
 obtain⟨HP,HAB⟩:=J2 hop hab
 clear hop hab
 have b1:(0:Int)<=(k:Int):=by omega
 have b2:(k:Int)<(n:Int):=by omega
 obtain⟨m1,m2⟩:=hne
 go_enter func54,ntmps54
 go_wp2_with fail
 go_loopw [9] (fun i wr=>(i=.int .i64 0/\w=wr)\/(i=.int .i64 1/\Below w w wr)) (fun i _=>1-(intOf i).toNat)
 case atStart=>exact .inl ⟨rfl,rfl⟩
 case round=>
  rcases hrel with ⟨rfl,rfl⟩|⟨rfl,hb⟩
  ·go_wp2_with fail
   refine wp_region_all kr (fun i v W=>match i with|0=>v=.agg #[.int .i64 ((k:Int)+1),E]|1=>v=.agg #[.int .i64 0,.int .i64 0]|2=>v=.bool true|3=>v=.bool true|4=>v=.pointer (some ⟨w.heap.size,0,none⟩)|5=>v=.int .i64 ((k:Int)+1)|6=>v=.bool false|7=>v=.bool false|8=>v=.pointer (some ⟨w.heap.size,0,none⟩)|9=>v=.int .i64 ((k:Int)+1)|10=>v=.slice (some ad) n cap|11=>v=.int .i64 (n:Nat)|12=>v=.bool false|13=>v=.bool false|14=>v=.bool false|15=>v=.slice (some ad) n cap|16=>v=.pointer (some ⟨w.heap.size,0,none⟩)|17=>v=.int .i64 ((k:Int)+1)|18=>v=.int .i64 (k:Nat)|19=>v=.pointer (some (ad.add (k*9)))|20=>v=.agg #[.int .i64 x1,.int .i64 x2,.int .i64 x3,.int .i64 x4,.int .i64 x5,.int .i64 x6,.string x7,.int .i64 x8,.slice hA hn hc]|21=>v=.agg #[.int .i64 x1,.int .i64 x2]|22=>v=.agg #[.int .i64 ((k:Int)+1),E]|23=>v=.bool false|24=>v=.bool false|25=>v=.bool false|_=>True) (fun W=>Below w w W/\Blk W w 26 #[.int .i64 ((k:Int)+1),E]) (fun W W'=>Below W W W') kr ?hG ?hmono ?hstep ?hend
   case hG=>exact⟨HBA.out.drew,HBK.out.drew⟩
   case hmono=>
    intro i v W W' _ hv
    match i with
    | 0|1|2|3|4|5|6|7|8|9|10|11|12|13|14|15|16|17|18|19|20|21|22|23|24|25=>exact hv
    | i+26=>exact hv
   case hstep=>
    exact Y3
   case hend=>
    intro U W hGW hV
    have h25:U 25=.bool false:=hV 25 kd
    obtain⟨HG,HU⟩:=J2 hGW.1 h25
    clear hV hGW h25
    simp [putU,dstAt,Act.put,HU.out]
    go_wp2
    go_roundw
    case rel=>exact .inr ⟨by go_num,HG.out⟩
    case measure=>simp [intOf]
  ·go_wp2
   go_ret
   exact⟨rfl,hb⟩
end
end
end Go.Proofs.Ytaipgdhdfpemcaa
