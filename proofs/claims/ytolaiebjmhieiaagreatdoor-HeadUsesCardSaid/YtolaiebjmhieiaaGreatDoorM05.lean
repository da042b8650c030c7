/- Parts of the proof of HeadUses; no condition. -/
import Derived.Test.YtolaiebjmhieiaaGreatDoorM01
import Derived.Test.YtolaiebjmhieiaaGreatDoorM04
set_option maxHeartbeats 8000000
set_option maxRecDepth 100000
set_option linter.unusedVariables false
set_option linter.unusedSimpArgs false
section
namespace Go.Proofs.YtolaiebjmhieiaaGreatDoor.ORef
open Go.RowKit YtolaiebjmhieiaaGreatDoorW.PrintWords YtolaiebjmhieiaaGreatDoorW.PrintLast YtolaiebjmhieiaaGreatDoorW.PrintMore
attribute [local go_sem] max2_int min2_int max_two min_two max_three min_three max_four min_four
mutual
def smockingref02_quoted.l0:Nat→ByteArray→Int→Int→Option (Int)
 |0,_,_,_=>none
 |k+1,x0,x1,x5=>if x5<(x0.size:Int) then (if 0≤x5 then (smockingref02_quoted.j1 k x0 x1 x5 ((bt x0 x5) !=10)) else (none)) else (smockingref02_quoted.j1 k x0 x1 x5 false)
def smockingref02_quoted.j1:Nat→ByteArray→Int→Int→Bool→Option (Int)
 |0,_,_,_,_=>none
 |k+1,x0,x1,x5,x17=>if x17=true then (if 0≤x5 then (if x5<(x0.size:Int) then (if 0≤x1 then (if x1<(x0.size:Int) then (if (bt x0 x5)=(bt x0 x1) then (some (wrap64 (x5+1))) else (if (bt x0 x5)=92 then (if (wrap64 (x5+1))<(x0.size:Int) then (if 0≤(wrap64 (x5+1)) then (if (bt x0 (wrap64 (x5+1)))=10 then (some x1) else (smockingref02_quoted.l0 k x0 x1 (wrap64 ((wrap64 (x5+1))+1)))) else (none)) else (smockingref02_quoted.l0 k x0 x1 (wrap64 ((wrap64 (x5+1))+1)))) else (smockingref02_quoted.l0 k x0 x1 (wrap64 (x5+1))))) else (none)) else (none)) else (none)) else (none)) else (some x1)
end
def smockingref02_quoted.f (k:Nat)(a0:ByteArray)(a1:Int):Option (Int):=smockingref02_quoted.l0 k a0 a1 (wrap64 (a1+1))
theorem smockingref02_quoted.calls (k:Nat)(a0:ByteArray)(a1:Int)(r:Int)(w:World)(h:smockingref02_quoted.f k a0 a1=some r):
 Calls Tryz.prog 180 #[.string a0,.int .i64 a1] w fun e w'=>e= .returned (.int .i64 r)∧Drawn0 w w':=by
 have H:=h
 clear h
 unfold smockingref02_quoted.f at H
 have H':=z0 H
 clear H
 go_enter Tryz.func180,Tryz.ntmps180
 go_wp2
 repeat (go_quiet (fail);try go_wp2)
 (try go_simp)
 go_loopg [5] k (fun kq v5 w'=>∃(x5_1:Int),v5= .int .i64 x5_1∧Aside0 (smockingref02_quoted.l0 kq a0 a1 x5_1=some r)∧Aside0 (kq≤k)∧Drawn0 w w')
 case atStart=>exact ⟨(wrap64 (a1+1)),zr,H',⟨Nat.le_refl _⟩,zq⟩
 case round=>
  clear H'
  (try clear c1);(try clear p2)
  obtain ⟨x5_1,rfl,HA,HK1,⟨m1,rfl⟩⟩:=hrel
  cases gk with
  |zero=>exact absurd HA.out (by simp [smockingref02_quoted.l0])
  |succ k1=>
   have H:=HA.out
   clear HA
   simp only [smockingref02_quoted.l0] at H
   have HC3:=z0 H
   clear H
   go_upto_region 2 with (fail)
   repeat (go_quiet (fail);go_upto_region 2 with (fail))
   go_cut [17] (fun v17 wc=>∃(kq:Nat) (x17_2:Bool),v17= .bool x17_2∧Aside0 (smockingref02_quoted.j1 kq a0 a1 x5_1 x17_2=some r)∧Aside0 (kq≤k1)∧Drawn0 w wc)
   case first=>
    have H:=HC3.out
    clear HC3
    replace H:=zd H
    rcases H with ⟨c4b0,H⟩|⟨c4b0,H⟩
    · (first|rw [c4b0]|(simp only [i64_w,i32_w];rw [c4b0])|skip)
      replace H:=zdn H
      obtain ⟨c5b0,H⟩:=H
      have H':=z0 H
      clear H
      obtain ⟨p6,q6,hx6⟩:=zb a0 x5_1
      go_wp2
      repeat (go_quiet (fail);try go_wp2)
      go_meet
      case rel=>exact ⟨_,(((bt a0 x5_1) !=10)),zr,H',⟨by have:=HK1.out;first|omega|exact Nat.le_refl _⟩,zq⟩
    · (first|rw [c4b0]|(simp only [i64_w,i32_w];rw [c4b0])|skip)
      have H':=z0 H
      clear H
      go_wp2
      repeat (go_quiet (fail);try go_wp2)
      go_meet
      case rel=>exact ⟨_,(false),zr,H',⟨by have:=HK1.out;first|omega|exact Nat.le_refl _⟩,zq⟩
   case rest=>
    clear HC3
    (try clear c1);(try clear p2);(try clear c4);(try clear c4b0);(try clear c5);(try clear c5b0);(try clear p6);(try clear q6);(try clear hx6);(try clear p2);(try clear p6);(try clear q6)
    obtain ⟨kq,x17_2,rfl,HA,HJ2,⟨mc2,rfl⟩⟩:=hcut
    cases kq with
    |zero=>exact absurd HA.out (by simp [smockingref02_quoted.j1])
    |succ kj2=>
     have H:=HA.out
     clear HA
     simp only [smockingref02_quoted.j1] at H
     by_cases c7:x17_2=true
     · subst c7
       rw [if_pos rfl] at H
       replace H:=zdn H
       obtain ⟨c8b0,H⟩:=H
       replace H:=zdn H
       obtain ⟨c9b0,H⟩:=H
       replace H:=zdn H
       obtain ⟨c11b0,H⟩:=H
       replace H:=zdn H
       obtain ⟨c12b0,H⟩:=H
       replace H:=ze H
       rcases H with ⟨c14b0,c14b1,H⟩|⟨c14b0,c14b1,H⟩
       · obtain rfl:=Option.some.inj H
         obtain ⟨p10,q10,hx10⟩:=zb a0 x5_1
         obtain ⟨p13,q13,hx13⟩:=zb a0 a1
         go_wp2
         repeat (go_quiet (fail);try go_wp2)
         go_ret
         exact ⟨zr,zq⟩
       · replace H:=ze H
         rcases H with ⟨c16b0,c16b1,H⟩|⟨c16b0,c16b1,H⟩
         · replace H:=zd H
           rcases H with ⟨c17b0,H⟩|⟨c17b0,H⟩
           · generalize hji18:(wrap64 (x5_1+1))=ji18 at H
             (try rw [hji18] at c17b0)
             have hji18w:(IntKind.i64.wrap (x5_1+1))=ji18:=(i64_w _).trans hji18
             replace H:=zdn H
             obtain ⟨c19b0,H⟩:=H
             replace H:=ze H
             rcases H with ⟨c21b0,c21b1,H⟩|⟨c21b0,c21b1,H⟩
             · obtain rfl:=Option.some.inj H
               obtain ⟨p10,q10,hx10⟩:=zb a0 x5_1
               obtain ⟨p13,q13,hx13⟩:=zb a0 a1
               obtain ⟨p20,q20,hx20⟩:=zb a0 (ji18)
               go_wp2
               repeat (go_quiet (fail);try go_wp2)
               go_ret
               exact ⟨by first|rfl|(simp;done)|(simp only [←hji18]<;>(first|rfl|simp))|(simp [*];done),zq⟩
             · have H':=z0 H
               clear H
               obtain ⟨p10,q10,hx10⟩:=zb a0 x5_1
               obtain ⟨p13,q13,hx13⟩:=zb a0 a1
               obtain ⟨p20,q20,hx20⟩:=zb a0 (ji18)
               go_wp2
               repeat (go_quiet (fail);try go_wp2)
               go_roundg kj2
               case measure=>have:=HK1.out;have:=HJ2.out;omega
               case rel=>exact ⟨(wrap64 ((ji18)+1)),(by first|rfl|(simp;done)|(simp only [←hji18]<;>(first|rfl|simp))|(simp [*];done)),H',⟨by have:=HK1.out;have:=HJ2.out;omega⟩,zq⟩
           · have H':=z0 H
             clear H
             obtain ⟨p10,q10,hx10⟩:=zb a0 x5_1
             obtain ⟨p13,q13,hx13⟩:=zb a0 a1
             go_wp2
             repeat (go_quiet (fail);try go_wp2)
             go_roundg kj2
             case measure=>have:=HK1.out;have:=HJ2.out;omega
             case rel=>exact ⟨(wrap64 ((wrap64 (x5_1+1))+1)),zr,H',⟨by have:=HK1.out;have:=HJ2.out;omega⟩,zq⟩
         · have H':=z0 H
           clear H
           obtain ⟨p10,q10,hx10⟩:=zb a0 x5_1
           obtain ⟨p13,q13,hx13⟩:=zb a0 a1
           go_wp2
           repeat (go_quiet (fail);try go_wp2)
           go_roundg kj2
           case measure=>have:=HK1.out;have:=HJ2.out;omega
           case rel=>exact ⟨(wrap64 (x5_1+1)),zr,H',⟨by have:=HK1.out;have:=HJ2.out;omega⟩,zq⟩
     · replace c7:=Bool.eq_false_iff.mpr c7
       subst c7
       rw [if_neg nofun] at H
       obtain rfl:=Option.some.inj H
       go_wp2
       repeat (go_quiet (fail);try go_wp2)
       go_ret
       exact ⟨zr,zq⟩
def smockingref02_Signs.f:Option (List ByteArray):=some (([(⟨#[46,46,46]⟩:ByteArray),(⟨#[60,60,61]⟩:ByteArray),(⟨#[62,62,61]⟩:ByteArray),(⟨#[60,60]⟩:ByteArray),(⟨#[62,62]⟩:ByteArray),(⟨#[60,61]⟩:ByteArray),(⟨#[62,61]⟩:ByteArray),(⟨#[61,61]⟩:ByteArray),(⟨#[33,61]⟩:ByteArray),(⟨#[38,38]⟩:ByteArray),(⟨#[124,124]⟩:ByteArray),(⟨#[43,43]⟩:ByteArray),(⟨#[45,45]⟩:ByteArray),(⟨#[43,61]⟩:ByteArray),(⟨#[45,61]⟩:ByteArray),(⟨#[42,61]⟩:ByteArray),(⟨#[47,61]⟩:ByteArray),(⟨#[37,61]⟩:ByteArray),(⟨#[38,61]⟩:ByteArray),(⟨#[124,61]⟩:ByteArray),(⟨#[94,61]⟩:ByteArray),(⟨#[45,62]⟩:ByteArray),(⟨#[43]⟩:ByteArray),(⟨#[45]⟩:ByteArray),(⟨#[42]⟩:ByteArray),(⟨#[47]⟩:ByteArray),(⟨#[37]⟩:ByteArray),(⟨#[38]⟩:ByteArray),(⟨#[124]⟩:ByteArray),(⟨#[94]⟩:ByteArray),(⟨#[33]⟩:ByteArray),(⟨#[126]⟩:ByteArray),(⟨#[60]⟩:ByteArray),(⟨#[62]⟩:ByteArray),(⟨#[61]⟩:ByteArray),(⟨#[63]⟩:ByteArray),(⟨#[58]⟩:ByteArray),(⟨#[59]⟩:ByteArray),(⟨#[44]⟩:ByteArray),(⟨#[46]⟩:ByteArray),(⟨#[40]⟩:ByteArray),(⟨#[41]⟩:ByteArray),(⟨#[91]⟩:ByteArray),(⟨#[93]⟩:ByteArray),(⟨#[123]⟩:ByteArray),(⟨#[125]⟩:ByteArray),(⟨#[35]⟩:ByteArray)]:List ByteArray))
theorem smockingref02_Signs.calls (r:List ByteArray)(w:World)(h:smockingref02_Signs.f=some r):
 Calls Tryz.prog 196 #[] w fun e w'=>∃v0_:Value,e= .returned (v0_)∧Kd.R Kd.string 9 w' w.heap.size (fun _=>True) v0_ r∧Below w.heap.size w w':=by
 have HB:=z0 (Below.refl w.heap.size w)
 have H:=h
 clear h
 unfold smockingref02_Signs.f at H
 obtain ⟨y121,hy121⟩:∃y_:List ByteArray,y_=(([(⟨#[46,46,46]⟩:ByteArray),(⟨#[60,60,61]⟩:ByteArray),(⟨#[62,62,61]⟩:ByteArray),(⟨#[60,60]⟩:ByteArray),(⟨#[62,62]⟩:ByteArray),(⟨#[60,61]⟩:ByteArray),(⟨#[62,61]⟩:ByteArray),(⟨#[61,61]⟩:ByteArray),(⟨#[33,61]⟩:ByteArray),(⟨#[38,38]⟩:ByteArray),(⟨#[124,124]⟩:ByteArray),(⟨#[43,43]⟩:ByteArray),(⟨#[45,45]⟩:ByteArray),(⟨#[43,61]⟩:ByteArray),(⟨#[45,61]⟩:ByteArray),(⟨#[42,61]⟩:ByteArray),(⟨#[47,61]⟩:ByteArray),(⟨#[37,61]⟩:ByteArray),(⟨#[38,61]⟩:ByteArray),(⟨#[124,61]⟩:ByteArray),(⟨#[94,61]⟩:ByteArray),(⟨#[45,62]⟩:ByteArray),(⟨#[43]⟩:ByteArray),(⟨#[45]⟩:ByteArray),(⟨#[42]⟩:ByteArray),(⟨#[47]⟩:ByteArray),(⟨#[37]⟩:ByteArray),(⟨#[38]⟩:ByteArray),(⟨#[124]⟩:ByteArray),(⟨#[94]⟩:ByteArray),(⟨#[33]⟩:ByteArray),(⟨#[126]⟩:ByteArray),(⟨#[60]⟩:ByteArray),(⟨#[62]⟩:ByteArray),(⟨#[61]⟩:ByteArray),(⟨#[63]⟩:ByteArray),(⟨#[58]⟩:ByteArray),(⟨#[59]⟩:ByteArray),(⟨#[44]⟩:ByteArray),(⟨#[46]⟩:ByteArray),(⟨#[40]⟩:ByteArray),(⟨#[41]⟩:ByteArray),(⟨#[91]⟩:ByteArray),(⟨#[93]⟩:ByteArray),(⟨#[123]⟩:ByteArray),(⟨#[125]⟩:ByteArray),(⟨#[35]⟩:ByteArray)]:List ByteArray)):=⟨_,rfl⟩
 replace H:(some y121)=some r:=by first|(rw [hy121];with_reducible exact H)|(have H2_:=(Option.bind_some _ _).symm.trans H;rw [hy121];with_reducible exact H2_)|(have H2_:=(Option.bind_some _ _).symm.trans H;with_reducible exact H2_)|with_reducible exact H|(rw [hy121];exact H)|exact H
 have Ny121:=z0 hy121
 clear hy121
 obtain rfl:=Option.some.inj H
 go_enter Tryz.func196,Tryz.ntmps196
 go_wp2_with (first|((with_reducible refine gate_dst (N:=1) rfl ?_);refine Kd.R_lit Kd.string _ 9 ?hg (N:=1) ?hd (xs:=([(⟨#[46,46,46]⟩:ByteArray),(⟨#[60,60,61]⟩:ByteArray),(⟨#[62,62,61]⟩:ByteArray),(⟨#[60,60]⟩:ByteArray),(⟨#[62,62]⟩:ByteArray),(⟨#[60,61]⟩:ByteArray),(⟨#[62,61]⟩:ByteArray),(⟨#[61,61]⟩:ByteArray),(⟨#[33,61]⟩:ByteArray),(⟨#[38,38]⟩:ByteArray),(⟨#[124,124]⟩:ByteArray),(⟨#[43,43]⟩:ByteArray),(⟨#[45,45]⟩:ByteArray),(⟨#[43,61]⟩:ByteArray),(⟨#[45,61]⟩:ByteArray),(⟨#[42,61]⟩:ByteArray),(⟨#[47,61]⟩:ByteArray),(⟨#[37,61]⟩:ByteArray),(⟨#[38,61]⟩:ByteArray),(⟨#[124,61]⟩:ByteArray),(⟨#[94,61]⟩:ByteArray),(⟨#[45,62]⟩:ByteArray),(⟨#[43]⟩:ByteArray),(⟨#[45]⟩:ByteArray),(⟨#[42]⟩:ByteArray),(⟨#[47]⟩:ByteArray),(⟨#[37]⟩:ByteArray),(⟨#[38]⟩:ByteArray),(⟨#[124]⟩:ByteArray),(⟨#[94]⟩:ByteArray),(⟨#[33]⟩:ByteArray),(⟨#[126]⟩:ByteArray),(⟨#[60]⟩:ByteArray),(⟨#[62]⟩:ByteArray),(⟨#[61]⟩:ByteArray),(⟨#[63]⟩:ByteArray),(⟨#[58]⟩:ByteArray),(⟨#[59]⟩:ByteArray),(⟨#[44]⟩:ByteArray),(⟨#[46]⟩:ByteArray),(⟨#[40]⟩:ByteArray),(⟨#[41]⟩:ByteArray),(⟨#[91]⟩:ByteArray),(⟨#[93]⟩:ByteArray),(⟨#[123]⟩:ByteArray),(⟨#[125]⟩:ByteArray),(⟨#[35]⟩:ByteArray)]:List ByteArray)) (inner:=[.string (⟨#[46,46,46]⟩:ByteArray),.string (⟨#[60,60,61]⟩:ByteArray),.string (⟨#[62,62,61]⟩:ByteArray),.string (⟨#[60,60]⟩:ByteArray),.string (⟨#[62,62]⟩:ByteArray),.string (⟨#[60,61]⟩:ByteArray),.string (⟨#[62,61]⟩:ByteArray),.string (⟨#[61,61]⟩:ByteArray),.string (⟨#[33,61]⟩:ByteArray),.string (⟨#[38,38]⟩:ByteArray),.string (⟨#[124,124]⟩:ByteArray),.string (⟨#[43,43]⟩:ByteArray),.string (⟨#[45,45]⟩:ByteArray),.string (⟨#[43,61]⟩:ByteArray),.string (⟨#[45,61]⟩:ByteArray),.string (⟨#[42,61]⟩:ByteArray),.string (⟨#[47,61]⟩:ByteArray),.string (⟨#[37,61]⟩:ByteArray),.string (⟨#[38,61]⟩:ByteArray),.string (⟨#[124,61]⟩:ByteArray),.string (⟨#[94,61]⟩:ByteArray),.string (⟨#[45,62]⟩:ByteArray),.string (⟨#[43]⟩:ByteArray),.string (⟨#[45]⟩:ByteArray),.string (⟨#[42]⟩:ByteArray),.string (⟨#[47]⟩:ByteArray),.string (⟨#[37]⟩:ByteArray),.string (⟨#[38]⟩:ByteArray),.string (⟨#[124]⟩:ByteArray),.string (⟨#[94]⟩:ByteArray),.string (⟨#[33]⟩:ByteArray),.string (⟨#[126]⟩:ByteArray),.string (⟨#[60]⟩:ByteArray),.string (⟨#[62]⟩:ByteArray),.string (⟨#[61]⟩:ByteArray),.string (⟨#[63]⟩:ByteArray),.string (⟨#[58]⟩:ByteArray),.string (⟨#[59]⟩:ByteArray),.string (⟨#[44]⟩:ByteArray),.string (⟨#[46]⟩:ByteArray),.string (⟨#[40]⟩:ByteArray),.string (⟨#[41]⟩:ByteArray),.string (⟨#[91]⟩:ByteArray),.string (⟨#[93]⟩:ByteArray),.string (⟨#[123]⟩:ByteArray),.string (⟨#[125]⟩:ByteArray),.string (⟨#[35]⟩:ByteArray)]) (ok:=fun _=>True) (okp:=fun _=>True) ?hr ?hp (fun _ hk=>hk) trivial (Below.refl _ _) (Nat.le_refl _) (by simp) ?_;(case hd=>rfl);(case hg=>rfl);(case hr=>first|(go_simp;done)|(go_simp;rfl));(case hp=>exact (Reps.one (show Kd.M Kd.string _ _ _ (⟨#[46,46,46]⟩:ByteArray) [.string (⟨#[46,46,46]⟩:ByteArray)] from rfl) (Reps.one (show Kd.M Kd.string _ _ _ (⟨#[60,60,61]⟩:ByteArray) [.string (⟨#[60,60,61]⟩:ByteArray)] from rfl) (Reps.one (show Kd.M Kd.string _ _ _ (⟨#[62,62,61]⟩:ByteArray) [.string (⟨#[62,62,61]⟩:ByteArray)] from rfl) (Reps.one (show Kd.M Kd.string _ _ _ (⟨#[60,60]⟩:ByteArray) [.string (⟨#[60,60]⟩:ByteArray)] from rfl) (Reps.one (show Kd.M Kd.string _ _ _ (⟨#[62,62]⟩:ByteArray) [.string (⟨#[62,62]⟩:ByteArray)] from rfl) (Reps.one (show Kd.M Kd.string _ _ _ (⟨#[60,61]⟩:ByteArray) [.string (⟨#[60,61]⟩:ByteArray)] from rfl) (Reps.one (show Kd.M Kd.string _ _ _ (⟨#[62,61]⟩:ByteArray) [.string (⟨#[62,61]⟩:ByteArray)] from rfl) (Reps.one (show Kd.M Kd.string _ _ _ (⟨#[61,61]⟩:ByteArray) [.string (⟨#[61,61]⟩:ByteArray)] from rfl) (Reps.one (show Kd.M Kd.string _ _ _ (⟨#[33,61]⟩:ByteArray) [.string (⟨#[33,61]⟩:ByteArray)] from rfl) (Reps.one (show Kd.M Kd.string _ _ _ (⟨#[38,38]⟩:ByteArray) [.string (⟨#[38,38]⟩:ByteArray)] from rfl) (Reps.one (show Kd.M Kd.string _ _ _ (⟨#[124,124]⟩:ByteArray) [.string (⟨#[124,124]⟩:ByteArray)] from rfl) (Reps.one (show Kd.M Kd.string _ _ _ (⟨#[43,43]⟩:ByteArray) [.string (⟨#[43,43]⟩:ByteArray)] from rfl) (Reps.one (show Kd.M Kd.string _ _ _ (⟨#[45,45]⟩:ByteArray) [.string (⟨#[45,45]⟩:ByteArray)] from rfl) (Reps.one (show Kd.M Kd.string _ _ _ (⟨#[43,61]⟩:ByteArray) [.string (⟨#[43,61]⟩:ByteArray)] from rfl) (Reps.one (show Kd.M Kd.string _ _ _ (⟨#[45,61]⟩:ByteArray) [.string (⟨#[45,61]⟩:ByteArray)] from rfl) (Reps.one (show Kd.M Kd.string _ _ _ (⟨#[42,61]⟩:ByteArray) [.string (⟨#[42,61]⟩:ByteArray)] from rfl) (Reps.one (show Kd.M Kd.string _ _ _ (⟨#[47,61]⟩:ByteArray) [.string (⟨#[47,61]⟩:ByteArray)] from rfl) (Reps.one (show Kd.M Kd.string _ _ _ (⟨#[37,61]⟩:ByteArray) [.string (⟨#[37,61]⟩:ByteArray)] from rfl) (Reps.one (show Kd.M Kd.string _ _ _ (⟨#[38,61]⟩:ByteArray) [.string (⟨#[38,61]⟩:ByteArray)] from rfl) (Reps.one (show Kd.M Kd.string _ _ _ (⟨#[124,61]⟩:ByteArray) [.string (⟨#[124,61]⟩:ByteArray)] from rfl) (Reps.one (show Kd.M Kd.string _ _ _ (⟨#[94,61]⟩:ByteArray) [.string (⟨#[94,61]⟩:ByteArray)] from rfl) (Reps.one (show Kd.M Kd.string _ _ _ (⟨#[45,62]⟩:ByteArray) [.string (⟨#[45,62]⟩:ByteArray)] from rfl) (Reps.one (show Kd.M Kd.string _ _ _ (⟨#[43]⟩:ByteArray) [.string (⟨#[43]⟩:ByteArray)] from rfl) (Reps.one (show Kd.M Kd.string _ _ _ (⟨#[45]⟩:ByteArray) [.string (⟨#[45]⟩:ByteArray)] from rfl) (Reps.one (show Kd.M Kd.string _ _ _ (⟨#[42]⟩:ByteArray) [.string (⟨#[42]⟩:ByteArray)] from rfl) (Reps.one (show Kd.M Kd.string _ _ _ (⟨#[47]⟩:ByteArray) [.string (⟨#[47]⟩:ByteArray)] from rfl) (Reps.one (show Kd.M Kd.string _ _ _ (⟨#[37]⟩:ByteArray) [.string (⟨#[37]⟩:ByteArray)] from rfl) (Reps.one (show Kd.M Kd.string _ _ _ (⟨#[38]⟩:ByteArray) [.string (⟨#[38]⟩:ByteArray)] from rfl) (Reps.one (show Kd.M Kd.string _ _ _ (⟨#[124]⟩:ByteArray) [.string (⟨#[124]⟩:ByteArray)] from rfl) (Reps.one (show Kd.M Kd.string _ _ _ (⟨#[94]⟩:ByteArray) [.string (⟨#[94]⟩:ByteArray)] from rfl) (Reps.one (show Kd.M Kd.string _ _ _ (⟨#[33]⟩:ByteArray) [.string (⟨#[33]⟩:ByteArray)] from rfl) (Reps.one (show Kd.M Kd.string _ _ _ (⟨#[126]⟩:ByteArray) [.string (⟨#[126]⟩:ByteArray)] from rfl) (Reps.one (show Kd.M Kd.string _ _ _ (⟨#[60]⟩:ByteArray) [.string (⟨#[60]⟩:ByteArray)] from rfl) (Reps.one (show Kd.M Kd.string _ _ _ (⟨#[62]⟩:ByteArray) [.string (⟨#[62]⟩:ByteArray)] from rfl) (Reps.one (show Kd.M Kd.string _ _ _ (⟨#[61]⟩:ByteArray) [.string (⟨#[61]⟩:ByteArray)] from rfl) (Reps.one (show Kd.M Kd.string _ _ _ (⟨#[63]⟩:ByteArray) [.string (⟨#[63]⟩:ByteArray)] from rfl) (Reps.one (show Kd.M Kd.string _ _ _ (⟨#[58]⟩:ByteArray) [.string (⟨#[58]⟩:ByteArray)] from rfl) (Reps.one (show Kd.M Kd.string _ _ _ (⟨#[59]⟩:ByteArray) [.string (⟨#[59]⟩:ByteArray)] from rfl) (Reps.one (show Kd.M Kd.string _ _ _ (⟨#[44]⟩:ByteArray) [.string (⟨#[44]⟩:ByteArray)] from rfl) (Reps.one (show Kd.M Kd.string _ _ _ (⟨#[46]⟩:ByteArray) [.string (⟨#[46]⟩:ByteArray)] from rfl) (Reps.one (show Kd.M Kd.string _ _ _ (⟨#[40]⟩:ByteArray) [.string (⟨#[40]⟩:ByteArray)] from rfl) (Reps.one (show Kd.M Kd.string _ _ _ (⟨#[41]⟩:ByteArray) [.string (⟨#[41]⟩:ByteArray)] from rfl) (Reps.one (show Kd.M Kd.string _ _ _ (⟨#[91]⟩:ByteArray) [.string (⟨#[91]⟩:ByteArray)] from rfl) (Reps.one (show Kd.M Kd.string _ _ _ (⟨#[93]⟩:ByteArray) [.string (⟨#[93]⟩:ByteArray)] from rfl) (Reps.one (show Kd.M Kd.string _ _ _ (⟨#[123]⟩:ByteArray) [.string (⟨#[123]⟩:ByteArray)] from rfl) (Reps.one (show Kd.M Kd.string _ _ _ (⟨#[125]⟩:ByteArray) [.string (⟨#[125]⟩:ByteArray)] from rfl) (Reps.one (show Kd.M Kd.string _ _ _ (⟨#[35]⟩:ByteArray) [.string (⟨#[35]⟩:ByteArray)] from rfl) (Reps.none _ _)))))))))))))))))))))))))))))))))))))))))))))))));intro v122 w1 ho2 hb hg_ hnew_;clear hg_ hnew_;(first|rw [←Ny121.out] at ho2|(simp only [Int.reduceToNat] at ho2;rw [←Ny121.out] at ho2));have n0_:=z0 (Kd.R_lower ho2 (below_size zw));have n1_:=z0 (below_step zw hb);revert n0_ n1_;clear HB;intro HO123 HB;clear hb ho2))
 go_ret
 exact ⟨_,zv,by (with_reducible repeat (first|apply Kd.R_alloc|apply Kd.R_drewN|apply Kd.R_drew));exact HO123.out,zw⟩
def smockingref02_sign.l0:Nat→ByteArray→Int→ByteArray→List ByteArray→Int→Option (ByteArray)
 |0,_,_,_,_,_=>none
 |k+1,x0,x1,x5,x6,x7=>if x7<(x6.length:Int) then (if 0≤x7 then (if ((rdOf ByteArray.empty x6 x7).size:Int)>(x5.size:Int) then ((smockingref02_begins.f x0 x1 (rdOf ByteArray.empty x6 x7)).bind fun t129=>(if t129=true then (smockingref02_sign.l0 k x0 x1 (rdOf ByteArray.empty x6 x7) x6 (wrap64 (x7+1))) else (smockingref02_sign.l0 k x0 x1 x5 x6 (wrap64 (x7+1))))) else (smockingref02_sign.l0 k x0 x1 x5 x6 (wrap64 (x7+1)))) else (none)) else (some x5)
def smockingref02_sign.f (k:Nat)(a0:ByteArray)(a1:Int):Option (ByteArray):=(smockingref02_Signs.f).bind fun t124=>(smockingref02_sign.l0 k a0 a1 (⟨#[]⟩:ByteArray) t124 0)
theorem smockingref02_sign.calls (k:Nat)(a0:ByteArray)(a1:Int)(r:ByteArray)(w:World)(h:smockingref02_sign.f k a0 a1=some r):
 Calls Tryz.prog 181 #[.string a0,.int .i64 a1] w fun e w'=>e= .returned (.string r)∧Below w.heap.size w w':=by
 have HB:=z0 (Below.refl w.heap.size w)
 have H:=h
 clear h
 unfold smockingref02_sign.f at H
 replace H:=zo H
 obtain ⟨t124,A3,H⟩:=H
 (try dsimp only at H)
 have H':=z0 H
 clear H
 go_enter Tryz.func181,Tryz.ntmps181
 go_wp2_with (first|(refine zc 8 rfl Tryz.func196 #[] ?_;(with_reducible refine (smockingref02_Signs.calls t124 _ A3.out).mono ?_);rintro e w4 ⟨v125,rfl,ho0,hb⟩;refine ⟨_,rfl,?_⟩;have n0_:=z0 (Kd.R_lower ho0 (below_size zw));have n1_:=z0 (below_step zw hb);revert n0_ n1_;clear HB;intro HO126 HB;(try clear hb);(try clear hk);(try clear hi);(try clear ho0)))
 (try go_simp)
 go_loopg [5,7] k (fun kq v5 v7 w'=>∃(x5_1:ByteArray) (x7_1:Int),v5= .string x5_1∧v7= .int .i64 x7_1∧Aside0 (smockingref02_sign.l0 kq a0 a1 x5_1 t124 x7_1=some r)∧Aside0 (kq≤k)∧Aside0 (Kd.R Kd.string 9 w' w.heap.size (fun _=>True) v125 t124)∧Aside0 (Below w.heap.size w w'))
 case atStart=>exact ⟨((⟨#[]⟩:ByteArray)),(0),zr,zr,H',⟨Nat.le_refl _⟩,⟨by (with_reducible repeat (first|apply Kd.R_alloc|apply Kd.R_drewN|apply Kd.R_drew));exact HO126.out⟩,⟨zw⟩⟩
 case round=>
  clear H'
  (try clear c1);(try clear p2)
  obtain ⟨x5_1,x7_1,rfl,rfl,HA,HK1,HO_6,HB⟩:=hrel
  cases gk with
  |zero=>exact absurd HA.out (by simp [smockingref02_sign.l0])
  |succ k1=>
   have H:=HA.out
   clear HA
   simp only [smockingref02_sign.l0] at H
   replace H:=zd H
   rcases H with ⟨c5b0,H⟩|⟨c5b0,H⟩
   · replace H:=zdn H
     obtain ⟨c6b0,H⟩:=H
     by_cases c7:((rdOf ByteArray.empty t124 x7_1).size:Int)>(x5_1.size:Int)
     · rw [if_pos c7] at H
       have c7b0:decide ((x5_1.size:Int)<((rdOf ByteArray.empty t124 x7_1).size:Int))=true:=decide_eq_true c7
       have c7b1:decide (x5_1.size<(rdOf ByteArray.empty t124 x7_1).size)=true:=decide_eq_true (Int.ofNat_lt.mp c7)
       clear c7
       replace H:=zo H
       obtain ⟨t129,A8,H⟩:=H
       (try dsimp only at H)
       by_cases c9:t129=true
       · subst c9
         rw [if_pos rfl] at H
         have H':=z0 H
         clear H
         obtain ⟨Ao10,co10,eo10⟩:=Kd.R_slice HO_6.out
         subst eo10
         have p127:0≤(x7_1:Int):=of_decide_eq_true (by first|(with_reducible assumption)|assumption)
         have q127:x7_1<(t124.length:Int):=of_decide_eq_true (by first|(with_reducible assumption)|assumption)
         obtain ⟨ad127,e127,hx127_0⟩:=Kd.at_string (Kd.R_reads' HO_6.out).2.2 x7_1 p127 q127
         cases e127
         replace p127:=eq_true p127
         replace q127:=eq_true q127
         have p128:0≤(x7_1:Int):=of_decide_eq_true (by first|(with_reducible assumption)|assumption)
         have q128:x7_1<(t124.length:Int):=of_decide_eq_true (by first|(with_reducible assumption)|assumption)
         obtain ⟨ad128,e128,hx128_0⟩:=Kd.at_string (Kd.R_reads' HO_6.out).2.2 x7_1 p128 q128
         obtain rfl:ad127=ad128:=(by injection e128)
         replace p128:=eq_true p128
         replace q128:=eq_true q128
         go_wp2_with (first|(go_at_call 194;(with_reducible refine (smockingref02_begins.calls a0 a1 (rdOf ByteArray.empty t124 x7_1) true _ A8.out).mono ?_);rintro e w' ⟨rfl,⟨nd,rfl⟩⟩;have p130:0≤(x7_1:Int):=of_decide_eq_true (by first|(with_reducible assumption)|assumption);have q130:x7_1<(t124.length:Int):=of_decide_eq_true (by first|(with_reducible assumption)|assumption);obtain ⟨ad130,e130,hx130_0⟩:=Kd.at_string (Kd.R_reads' HO_6.out).2.2 x7_1 p130 q130;obtain rfl:ad127=ad130:=(by injection e130);replace p130:=eq_true p130;replace q130:=eq_true q130))
         go_roundg k1
         case measure=>have:=HK1.out;omega
         case rel=>exact ⟨(rdOf ByteArray.empty t124 x7_1),(wrap64 (x7_1+1)),zr,zr,H',⟨by have:=HK1.out;omega⟩,⟨by (with_reducible repeat (first|apply Kd.R_alloc|apply Kd.R_drewN|apply Kd.R_drew));exact HO_6.out⟩,⟨zw⟩⟩
       · replace c9:=Bool.eq_false_iff.mpr c9
         subst c9
         rw [if_neg nofun] at H
         have H':=z0 H
         clear H
         obtain ⟨Ao11,co11,eo11⟩:=Kd.R_slice HO_6.out
         subst eo11
         have p127:0≤(x7_1:Int):=of_decide_eq_true (by first|(with_reducible assumption)|assumption)
         have q127:x7_1<(t124.length:Int):=of_decide_eq_true (by first|(with_reducible assumption)|assumption)
         obtain ⟨ad127,e127,hx127_0⟩:=Kd.at_string (Kd.R_reads' HO_6.out).2.2 x7_1 p127 q127
         cases e127
         replace p127:=eq_true p127
         replace q127:=eq_true q127
         have p128:0≤(x7_1:Int):=of_decide_eq_true (by first|(with_reducible assumption)|assumption)
         have q128:x7_1<(t124.length:Int):=of_decide_eq_true (by first|(with_reducible assumption)|assumption)
         obtain ⟨ad128,e128,hx128_0⟩:=Kd.at_string (Kd.R_reads' HO_6.out).2.2 x7_1 p128 q128
         obtain rfl:ad127=ad128:=(by injection e128)
         replace p128:=eq_true p128
         replace q128:=eq_true q128
         go_wp2_with (first|(go_at_call 194;(with_reducible refine (smockingref02_begins.calls a0 a1 (rdOf ByteArray.empty t124 x7_1) false _ A8.out).mono ?_);rintro e w' ⟨rfl,⟨nd,rfl⟩⟩))
         go_roundg k1
         case measure=>have:=HK1.out;omega
         case rel=>exact ⟨(x5_1),(wrap64 (x7_1+1)),zr,zr,H',⟨by have:=HK1.out;omega⟩,⟨by (with_reducible repeat (first|apply Kd.R_alloc|apply Kd.R_drewN|apply Kd.R_drew));exact HO_6.out⟩,⟨zw⟩⟩
     · rw [if_neg c7] at H
       have c7b0:decide ((x5_1.size:Int)<((rdOf ByteArray.empty t124 x7_1).size:Int))=false:=decide_eq_false c7
       have c7b1:decide (x5_1.size<(rdOf ByteArray.empty t124 x7_1).size)=false:=decide_eq_false (fun h=>c7 (Int.ofNat_lt.mpr h))
       clear c7
       have H':=z0 H
       clear H
       obtain ⟨Ao12,co12,eo12⟩:=Kd.R_slice HO_6.out
       subst eo12
       have p127:0≤(x7_1:Int):=of_decide_eq_true (by first|(with_reducible assumption)|assumption)
       have q127:x7_1<(t124.length:Int):=of_decide_eq_true (by first|(with_reducible assumption)|assumption)
       obtain ⟨ad127,e127,hx127_0⟩:=Kd.at_string (Kd.R_reads' HO_6.out).2.2 x7_1 p127 q127
       cases e127
       replace p127:=eq_true p127
       replace q127:=eq_true q127
       go_wp2
       go_roundg k1
       case measure=>have:=HK1.out;omega
       case rel=>exact ⟨(x5_1),(wrap64 (x7_1+1)),zr,zr,H',⟨by have:=HK1.out;omega⟩,⟨by (with_reducible repeat (first|apply Kd.R_alloc|apply Kd.R_drewN|apply Kd.R_drew));exact HO_6.out⟩,⟨zw⟩⟩
   · obtain rfl:=Option.some.inj H
     obtain ⟨Ao13,co13,eo13⟩:=Kd.R_slice HO_6.out
     subst eo13
     go_wp2
     go_ret
     exact ⟨zv,zw⟩
mutual
def smockingref02_token.j0:Nat→ByteArray→Int→Int→Bool→Option (Int × Int)
 |0,_,_,_,_=>none
 |k+1,x0,x1,x8,x14=>if x14=true then ((smockingref02_line.f k x0 x1).bind fun t131=>(some (7,t131))) else ((smockingref02_letter.f x8).bind fun t132=>(if t132=true then ((smockingref02_word.f k x0 x1).bind fun bt133=>(some (bt133.1,bt133.2))) else ((smockingref02_digit.f x8).bind fun t135=>(if t135=true then (smockingref02_token.j1 k x0 x1 x8 true) else (if x8=46 then ((smockingref02_byteAt.f x0 (wrap64 (x1+1))).bind fun t136=>((smockingref02_digit.f t136).bind fun t137=>(smockingref02_token.j1 k x0 x1 x8 t137))) else (smockingref02_token.j1 k x0 x1 x8 false))))))
def smockingref02_token.j1:Nat→ByteArray→Int→Int→Bool→Option (Int × Int)
 |0,_,_,_,_=>none
 |k+1,x0,x1,x8,x31=>if x31=true then ((smockingref02_number.f k x0 x1).bind fun t138=>(some (3,t138))) else (if x8=39 then (smockingref02_token.j2 k x0 x1 x8 true) else (smockingref02_token.j2 k x0 x1 x8 (x8==34)))
def smockingref02_token.j2:Nat→ByteArray→Int→Int→Bool→Option (Int × Int)
 |0,_,_,_,_=>none
 |k+1,x0,x1,x8,x48=>if x48=true then ((smockingref02_quoted.f k x0 x1).bind fun t139=>(if t139=x1 then (some (8,wrap64 (x1+1))) else (if x8=34 then (some (5,t139)) else (some (4,t139))))) else ((smockingref02_sign.f k x0 x1).bind fun t140=>(if t140.toList=([]:List UInt8) then (some (8,wrap64 (x1+1))) else (some (6,wrap64 (x1+(t140.size:Int))))))
end
def smockingref02_token.f (k:Nat)(a0:ByteArray)(a1:Int)(a2:Bool):Option (Int × Int):=if 0≤a1 then (if a1<(a0.size:Int) then (if (bt a0 a1)=35 then (smockingref02_token.j0 k a0 a1 (bt a0 a1) a2) else (smockingref02_token.j0 k a0 a1 (bt a0 a1) false)) else (none)) else (none)
theorem smockingref02_token.calls (k:Nat)(a0:ByteArray)(a1:Int)(a2:Bool)(r1:Int)(r2:Int)(w:World)(h:smockingref02_token.f k a0 a1 a2=some (r1,r2)):
 Calls Tryz.prog 139 #[.string a0,.int .i64 a1,.bool a2] w fun e w'=>e= .returned (.tuple #[.int .i64 r1,.int .i64 r2])∧Below w.heap.size w w':=by
 have HB:=z0 (Below.refl w.heap.size w)
 have H:=h
 clear h
 unfold smockingref02_token.f at H
 replace H:=zdn H
 obtain ⟨c4b0,H⟩:=H
 replace H:=zdn H
 obtain ⟨c5b0,H⟩:=H
 have HC7:=z0 H
 clear H
 obtain ⟨p6,q6,hx6⟩:=zb a0 a1
 go_enter Tryz.func139,Tryz.ntmps139
 go_upto_region 2 with (fail)
 go_cut [14] (fun v14 wc=>∃(kq:Nat) (x14_6:Bool),v14= .bool x14_6∧Aside0 (smockingref02_token.j0 kq a0 a1 (bt a0 a1) x14_6=some (r1,r2))∧Aside0 (kq≤k)∧Aside0 (Below w.heap.size w wc))
 case first=>
  have H:=HC7.out
  clear HC7
  replace H:=ze H
  rcases H with ⟨c8b0,c8b1,H⟩|⟨c8b0,c8b1,H⟩
  · (first|rw [c8b0]|(simp only [i64_w,i32_w];rw [c8b0])|skip)
    have H':=z0 H
    clear H
    go_wp2
    go_meet
    case rel=>exact ⟨_,(a2),zr,H',⟨by first|omega|exact Nat.le_refl _⟩,⟨zw⟩⟩
  · (first|rw [c8b0]|(simp only [i64_w,i32_w];rw [c8b0])|skip)
    have H':=z0 H
    clear H
    go_wp2
    go_meet
    case rel=>exact ⟨_,(false),zr,H',⟨by first|omega|exact Nat.le_refl _⟩,⟨zw⟩⟩
 case rest=>
  clear HC7
  (try clear c1);(try clear p2);(try clear c4);(try clear c4b0);(try clear c5);(try clear c5b0);(try clear p6);(try clear q6);(try clear hx6);(try clear c8);(try clear c8b0);(try clear c8b1);(try clear p6);(try clear q6)
  obtain ⟨kq,x14_6,rfl,HA,HJ6,HB⟩:=hcut
  cases kq with
  |zero=>exact absurd HA.out (by simp [smockingref02_token.j0])
  |succ kj6=>
   have H:=HA.out
   clear HA
   simp only [smockingref02_token.j0] at H
   by_cases c9:x14_6=true
   · subst c9
     rw [if_pos rfl] at H
     replace H:=zo H
     obtain ⟨t131,A10,H⟩:=H
     (try dsimp only at H)
     simp only [Option.some.injEq,Prod.mk.injEq] at H
     obtain ⟨rfl,rfl⟩:=H
     go_wp2_with (first|(refine zc 22 rfl Tryz.func175 #[.string a0,.int .i64 a1] ?_;refine za (smockingref02_line.calls kj6 a0 a1 t131 _ A10.out) fun nd=> ?_))
     go_ret2
     exact ⟨zv,zw⟩
   · replace c9:=Bool.eq_false_iff.mpr c9
     subst c9
     rw [if_neg nofun] at H
     replace H:=zo H
     obtain ⟨t132,A11,H⟩:=H
     (try dsimp only at H)
     by_cases c12:t132=true
     · subst c12
       rw [if_pos rfl] at H
       replace H:=zo H
       obtain ⟨⟨t133,t134⟩,A13,H⟩:=H
       (try dsimp only at H)
       simp only [Option.some.injEq,Prod.mk.injEq] at H
       obtain ⟨rfl,rfl⟩:=H
       go_wp2_with (first|(refine zc 25 rfl Tryz.func176 #[.int .u8 (bt a0 a1)] ?_;refine za (smockingref02_letter.calls (bt a0 a1) true _ A11.out) fun nd=> ?_)|(refine zc 28 rfl Tryz.func177 #[.string a0,.int .i64 a1] ?_;(with_reducible refine (smockingref02_word.calls kj6 a0 a1 t133 t134 _ A13.out).mono ?_);rintro e w14 ⟨rfl,hb⟩;refine ⟨_,rfl,?_⟩;have n0_:=z0 (below_step zw hb);revert n0_;clear HB;intro HB;(try clear hb);(try clear hk);(try clear hi)))
       go_ret2
       exact ⟨zv,zw⟩
     · replace c12:=Bool.eq_false_iff.mpr c12
       subst c12
       rw [if_neg nofun] at H
       have HC15:=z0 H
       clear H
       go_upto_region 6 with (first|(refine zc 25 rfl Tryz.func176 #[.int .u8 (bt a0 a1)] ?_;refine za (smockingref02_letter.calls (bt a0 a1) false _ A11.out) fun nd=> ?_))
       (try simp only [Act.put,List.setIfInBounds_toArray,List.set_cons_zero,List.set_cons_succ])
       go_cut [31] (fun v31 wc=>∃(kq:Nat) (x31_14:Bool),v31= .bool x31_14∧Aside0 (smockingref02_token.j1 kq a0 a1 (bt a0 a1) x31_14=some (r1,r2))∧Aside0 (kq≤kj6)∧Aside0 (Below w.heap.size w wc))
       case first=>
        have H:=HC15.out
        clear HC15
        replace H:=zo H
        obtain ⟨t135,A16,H⟩:=H
        (try dsimp only at H)
        by_cases c17:t135=true
        · subst c17
          rw [if_pos rfl] at H
          have H':=z0 H
          clear H
          go_wp2_with (first|(refine zc 33 rfl Tryz.func178 #[.int .u8 (bt a0 a1)] ?_;refine za (smockingref02_digit.calls (bt a0 a1) true _ A16.out) fun nd=> ?_))
          go_meet
          case rel=>exact ⟨_,(true),zr,H',⟨by have:=HJ6.out;first|omega|exact Nat.le_refl _⟩,⟨zw⟩⟩
        · replace c17:=Bool.eq_false_iff.mpr c17
          subst c17
          rw [if_neg nofun] at H
          replace H:=ze H
          rcases H with ⟨c18b0,c18b1,H⟩|⟨c18b0,c18b1,H⟩
          · (first|rw [c18b0]|(simp only [i64_w,i32_w];rw [c18b0])|skip)
            replace H:=zo H
            obtain ⟨t136,A19,H⟩:=H
            (try dsimp only at H)
            replace H:=zo H
            obtain ⟨t137,A20,H⟩:=H
            (try dsimp only at H)
            have H':=z0 H
            clear H
            go_wp2_with (first|(refine zc 33 rfl Tryz.func178 #[.int .u8 (bt a0 a1)] ?_;refine za (smockingref02_digit.calls (bt a0 a1) false _ A16.out) fun nd=> ?_)|(go_at_call 173;(with_reducible refine (smockingref02_byteAt.calls a0 (wrap64 (a1+1)) t136 _ A19.out).mono ?_);rintro e w' ⟨rfl,⟨nd,rfl⟩⟩)|(go_at_call 178;(with_reducible refine (smockingref02_digit.calls t136 t137 _ A20.out).mono ?_);rintro e w' ⟨rfl,⟨nd,rfl⟩⟩))
            go_meet
            case rel=>exact ⟨_,(t137),zr,H',⟨by have:=HJ6.out;first|omega|exact Nat.le_refl _⟩,⟨zw⟩⟩
          · (first|rw [c18b0]|(simp only [i64_w,i32_w];rw [c18b0])|skip)
            have H':=z0 H
            clear H
            go_wp2_with (first|(refine zc 33 rfl Tryz.func178 #[.int .u8 (bt a0 a1)] ?_;refine za (smockingref02_digit.calls (bt a0 a1) false _ A16.out) fun nd=> ?_))
            go_meet
            case rel=>exact ⟨_,(false),zr,H',⟨by have:=HJ6.out;first|omega|exact Nat.le_refl _⟩,⟨zw⟩⟩
       case rest=>
        clear HC15
        (try clear c1);(try clear p2);(try clear c4);(try clear c4b0);(try clear c5);(try clear c5b0);(try clear p6);(try clear q6);(try clear hx6);(try clear c8);(try clear c8b0);(try clear c8b1);(try clear c9);(try clear c12);(try clear c13);(try clear c17);(try clear c18);(try clear c18b0);(try clear c18b1);(try clear p2);(try clear p6);(try clear q6)
        obtain ⟨kq,x31_14,rfl,HA,HJ14,HB⟩:=hcut
        cases kq with
        |zero=>exact absurd HA.out (by simp [smockingref02_token.j1])
        |succ kj14=>
         have H:=HA.out
         clear HA
         simp only [smockingref02_token.j1] at H
         by_cases c21:x31_14=true
         · subst c21
           rw [if_pos rfl] at H
           replace H:=zo H
           obtain ⟨t138,A22,H⟩:=H
           (try dsimp only at H)
           simp only [Option.some.injEq,Prod.mk.injEq] at H
           obtain ⟨rfl,rfl⟩:=H
           go_wp2_with (first|(refine zc 47 rfl Tryz.func179 #[.string a0,.int .i64 a1] ?_;refine za (smockingref02_number.calls kj14 a0 a1 t138 _ A22.out) fun nd=> ?_))
           go_ret2
           exact ⟨zv,zw⟩
         · replace c21:=Bool.eq_false_iff.mpr c21
           subst c21
           rw [if_neg nofun] at H
           have HC23:=z0 H
           clear H
           go_upto_region 8 with (fail)
           go_cut [48] (fun v48 wc=>∃(kq:Nat) (x48_22:Bool),v48= .bool x48_22∧Aside0 (smockingref02_token.j2 kq a0 a1 (bt a0 a1) x48_22=some (r1,r2))∧Aside0 (kq≤kj14)∧Aside0 (Below w.heap.size w wc))
           case first=>
            have H:=HC23.out
            clear HC23
            replace H:=ze H
            rcases H with ⟨c24b0,c24b1,H⟩|⟨c24b0,c24b1,H⟩
            · (first|rw [c24b0]|(simp only [i64_w,i32_w];rw [c24b0])|skip)
              have H':=z0 H
              clear H
              go_wp2
              go_meet
              case rel=>exact ⟨_,(true),zr,H',⟨by have:=HJ6.out;have:=HJ14.out;first|omega|exact Nat.le_refl _⟩,⟨zw⟩⟩
            · (first|rw [c24b0]|(simp only [i64_w,i32_w];rw [c24b0])|skip)
              have H':=z0 H
              clear H
              go_wp2
              go_meet
              case rel=>exact ⟨_,(((bt a0 a1)==34)),zr,H',⟨by have:=HJ6.out;have:=HJ14.out;first|omega|exact Nat.le_refl _⟩,⟨zw⟩⟩
           case rest=>
            clear HC23
            (try clear c1);(try clear c2);(try clear p2);(try clear c4);(try clear c4b0);(try clear c5);(try clear c5b0);(try clear p6);(try clear q6);(try clear hx6);(try clear c8);(try clear c8b0);(try clear c8b1);(try clear c9);(try clear c12);(try clear c13);(try clear c17);(try clear c18);(try clear c18b0);(try clear c18b1);(try clear c21);(try clear c24);(try clear c24b0);(try clear c24b1);(try clear p2);(try clear p6);(try clear q6)
            obtain ⟨kq,x48_22,rfl,HA,HJ22,HB⟩:=hcut
            cases kq with
            |zero=>exact absurd HA.out (by simp [smockingref02_token.j2])
            |succ kj22=>
             have H:=HA.out
             clear HA
             simp only [smockingref02_token.j2] at H
             by_cases c25:x48_22=true
             · subst c25
               rw [if_pos rfl] at H
               replace H:=zo H
               obtain ⟨t139,A26,H⟩:=H
               (try dsimp only at H)
               replace H:=ze H
               rcases H with ⟨c27b0,c27b1,H⟩|⟨c27b0,c27b1,H⟩
               · simp only [Option.some.injEq,Prod.mk.injEq] at H
                 obtain ⟨rfl,rfl⟩:=H
                 go_wp2_with (first|(refine zc 57 rfl Tryz.func180 #[.string a0,.int .i64 a1] ?_;refine za (smockingref02_quoted.calls kj22 a0 a1 t139 _ A26.out) fun nd=> ?_))
                 go_ret2
                 exact ⟨zv,zw⟩
               · replace H:=ze H
                 rcases H with ⟨c28b0,c28b1,H⟩|⟨c28b0,c28b1,H⟩
                 · simp only [Option.some.injEq,Prod.mk.injEq] at H
                   obtain ⟨rfl,rfl⟩:=H
                   go_wp2_with (first|(refine zc 57 rfl Tryz.func180 #[.string a0,.int .i64 a1] ?_;refine za (smockingref02_quoted.calls kj22 a0 a1 t139 _ A26.out) fun nd=> ?_))
                   go_ret2
                   exact ⟨zv,zw⟩
                 · simp only [Option.some.injEq,Prod.mk.injEq] at H
                   obtain ⟨rfl,rfl⟩:=H
                   go_wp2_with (first|(refine zc 57 rfl Tryz.func180 #[.string a0,.int .i64 a1] ?_;refine za (smockingref02_quoted.calls kj22 a0 a1 t139 _ A26.out) fun nd=> ?_))
                   go_ret2
                   exact ⟨zv,zw⟩
             · replace c25:=Bool.eq_false_iff.mpr c25
               subst c25
               rw [if_neg nofun] at H
               replace H:=zo H
               obtain ⟨t140,A29,H⟩:=H
               (try dsimp only at H)
               replace H:=zE H
               rcases H with ⟨c30b0,c30b1,H⟩|⟨c30b0,c30b1,H⟩
               · simp only [Option.some.injEq,Prod.mk.injEq] at H
                 obtain ⟨rfl,rfl⟩:=H
                 go_wp2_with (first|(refine zc 69 rfl Tryz.func181 #[.string a0,.int .i64 a1] ?_;(with_reducible refine (smockingref02_sign.calls kj22 a0 a1 t140 _ A29.out).mono ?_);rintro e w31 ⟨rfl,hb⟩;refine ⟨_,rfl,?_⟩;have n0_:=z0 (below_step zw hb);revert n0_;clear HB;intro HB;(try clear hb);(try clear hk);(try clear hi)))
                 go_ret2
                 exact ⟨zv,zw⟩
               · simp only [Option.some.injEq,Prod.mk.injEq] at H
                 obtain ⟨rfl,rfl⟩:=H
                 go_wp2_with (first|(refine zc 69 rfl Tryz.func181 #[.string a0,.int .i64 a1] ?_;(with_reducible refine (smockingref02_sign.calls kj22 a0 a1 t140 _ A29.out).mono ?_);rintro e w32 ⟨rfl,hb⟩;refine ⟨_,rfl,?_⟩;have n0_:=z0 (below_step zw hb);revert n0_;clear HB;intro HB;(try clear hb);(try clear hk);(try clear hi)))
                 go_ret2
                 exact ⟨zv,zw⟩
mutual
def smockingref02_All.l0:Nat→ByteArray→List (S95)→Int→Int→Bool→Option ((List (S95)))
 |0,_,_,_,_,_=>none
 |k+1,x0,x3,x4,x5,x6=>(smockingref02_piece.f k x0 x5).bind fun t141=>(if t141>x5 then (smockingref02_All.l1 k x0 x3 x4 x5 x6 t141 x5) else (if x5=(x0.size:Int) then (if 0≤x4 then (if x4≤(x0.size:Int) then (if x3.length<2932031007402 then (some (x3++[(⟨0,x0.extract (x4:Int).toNat x0.size,(⟨#[]⟩:ByteArray),x5⟩:S95)])) else (none)) else (none)) else (none)) else ((smockingref02_token.f k x0 x5 x6).bind fun bt145=>(if 0≤x4 then (if x4≤x5 then (if x5≤(x0.size:Int) then (if 0≤x5 then (if x5≤bt145.2 then (if bt145.2≤(x0.size:Int) then (if x3.length<2932031007402 then (smockingref02_All.l0 k x0 (x3++[(⟨bt145.1,x0.extract (x4:Int).toNat (x5:Int).toNat,x0.extract (x5:Int).toNat (bt145.2:Int).toNat,x5⟩:S95)]) bt145.2 bt145.2 false) else (none)) else (none)) else (none)) else (none)) else (none)) else (none)) else (none)))))
def smockingref02_All.l1:Nat→ByteArray→List (S95)→Int→Int→Bool→Int→Int→Option ((List (S95)))
 |0,_,_,_,_,_,_,_=>none
 |k+1,x0,x3,x4,x5,x6,x7,x8=>if x8<x7 then (if 0≤x8 then (if x8<(x0.size:Int) then (if (bt x0 x8)=10 then (smockingref02_All.l1 k x0 x3 x4 x5 true x7 (wrap64 (x8+1))) else (smockingref02_All.l1 k x0 x3 x4 x5 x6 x7 (wrap64 (x8+1)))) else (none)) else (none)) else (if x7=(wrap64 (x5+1)) then (if 0≤x5 then (if x5<(x0.size:Int) then (if (bt x0 x5)≥11 then (smockingref02_All.j2 k x0 x3 x4 x6 x7 (decide ((bt x0 x5)≤13))) else (smockingref02_All.j2 k x0 x3 x4 x6 x7 false)) else (none)) else (none)) else (smockingref02_All.j2 k x0 x3 x4 x6 x7 false))
def smockingref02_All.j2:Nat→ByteArray→List (S95)→Int→Bool→Int→Bool→Option ((List (S95)))
 |0,_,_,_,_,_,_=>none
 |k+1,x0,x3,x4,x6,x7,x42=>if x42=true then (smockingref02_All.l0 k x0 x3 x4 x7 false) else (smockingref02_All.l0 k x0 x3 x4 x7 x6)
end
def smockingref02_All.f (k:Nat)(a0:ByteArray):Option ((List (S95))):=smockingref02_All.l0 k a0 ([]:List (S95)) 0 0 true
def smockingref02_All.T17:Bool × List (List Nat × List Nat):=(true,[([],[]),([],[]),([],[]),([],[]),([],[]),([2,3,4],[2,3,4]),([],[]),([],[]),([],[]),([6,7,8],[6,7,8]),([],[]),([1,5,9,10],[1,5,9,10]),([11],[11]),([0,12],[0,12]),([13,13,0,1,2,3,4,5,6,7,8,9,10,11,12,13],[0,13])])
def smockingref02_All.B17:List Nat:=[0,0,0,0,0,28,0,0,0,448,0,2046,4094,8191,16383]
theorem smockingref02_All.tab17:rtab .any (opsOf Tryz.f81 17)=smockingref02_All.T17:=by kernel_rfl
theorem smockingref02_All.bits17:waitsOk smockingref02_All.T17.2 smockingref02_All.B17=true:=by kernel_rfl
theorem smockingref02_All.calls (k:Nat)(a0:ByteArray)(r:List (S95))(w:World)(h:smockingref02_All.f k a0=some r):
 Calls Tryz.prog 81 #[.string a0] w fun e w'=>∃v0_:Value,e= .returned (v0_)∧Kd.R k95 95 w' w.heap.size (fun _=>True) v0_ r∧Below w.heap.size w w':=by
 have hu95:=Tryz.underlying95
 have HB:=z0 (Below.refl w.heap.size w)
 have H:=h
 clear h
 unfold smockingref02_All.f at H
 have H':=z0 H
 clear H
 go_enter Tryz.func81,Tryz.ntmps81
 go_wp2
 (try go_simp)
 go_loopg [3,4,5,6] k (fun kq v3 v4 v5 v6 w'=>∃(x3_1:List (S95)) (x4_1:Int) (x5_1:Int) (x6_1:Bool),v4= .int .i64 x4_1∧v5= .int .i64 x5_1∧v6= .bool x6_1∧Aside0 (smockingref02_All.l0 kq a0 x3_1 x4_1 x5_1 x6_1=some r)∧Aside0 (kq≤k)∧Aside0 (Kd.R k95 95 w' w.heap.size (fun _=>True) v3 x3_1)∧Aside0 (Below w.heap.size w w'))
 case atStart=>exact ⟨(([]:List (S95))),(0),(0),(true),zr,zr,zr,H',⟨Nat.le_refl _⟩,⟨by first|exact Kd.R_nil _ _ _ _ _|exact Kd.N_nil _ _ _ _ _|exact Kd.V_nil _ _ _ _ _|exact Kd.Q_nil _ _ _ _ _|exact Kd.S_nil _ _ _ _ _⟩,⟨zw⟩⟩
 case round=>
  clear H'
  obtain ⟨x3_1,x4_1,x5_1,x6_1,rfl,rfl,rfl,HA,HK1,HO_3,HB⟩:=hrel
  cases gk with
  |zero=>exact absurd HA.out (by simp [smockingref02_All.l0])
  |succ k1=>
   have H:=HA.out
   clear HA
   simp only [smockingref02_All.l0] at H
   replace H:=zo H
   obtain ⟨t141,A2,H⟩:=H
   (try dsimp only at H)
   replace H:=zt H
   rcases H with ⟨c3b0,H⟩|⟨c3b0,H⟩
   · have H':=z0 H
     clear H
     go_wp2_with (first|(refine zc 13 rfl Tryz.func138 #[.string a0,.int .i64 x5_1] ?_;refine za (smockingref02_piece.calls k1 a0 x5_1 t141 _ A2.out) fun nd=> ?_))
     (try go_simp)
     go_loopg [6,8] k1 (fun kq v6 v8 w'=>∃(x6_2:Bool) (x8_2:Int),v6= .bool x6_2∧v8= .int .i64 x8_2∧Aside0 (smockingref02_All.l1 kq a0 x3_1 x4_1 x5_1 x6_2 t141 x8_2=some r)∧Aside0 (kq≤k1)∧Aside0 (Kd.R k95 95 w' w.heap.size (fun _=>True) u3 x3_1)∧Aside0 (Below w.heap.size w w'))
     case atStart=>exact ⟨(x6_1),(x5_1),zr,zr,H',⟨Nat.le_refl _⟩,⟨by (with_reducible repeat (first|apply Kd.R_alloc|apply Kd.R_drewN|apply Kd.R_drew));exact HO_3.out⟩,⟨zw⟩⟩
     case round=>
      clear H'
      (try clear c1);(try clear p2);(try clear c3);(try clear c3b0)
      obtain ⟨x6_2,x8_2,rfl,rfl,HA,HK2,HO_3,HB⟩:=hrel
      cases gk with
      |zero=>exact absurd HA.out (by simp [smockingref02_All.l1])
      |succ k2=>
       have H:=HA.out
       clear HA
       simp only [smockingref02_All.l1] at H
       replace H:=zd H
       rcases H with ⟨c4b0,H⟩|⟨c4b0,H⟩
       · replace H:=zdn H
         obtain ⟨c5b0,H⟩:=H
         replace H:=zdn H
         obtain ⟨c6b0,H⟩:=H
         replace H:=ze H
         rcases H with ⟨c8b0,c8b1,H⟩|⟨c8b0,c8b1,H⟩
         · have H':=z0 H
           clear H
           obtain ⟨p7,q7,hx7⟩:=zb a0 x8_2
           go_wp2
           go_roundg k2
           case measure=>have:=HK1.out;have:=HK2.out;omega
           case rel=>exact ⟨(true),(wrap64 (x8_2+1)),zr,zr,H',⟨by have:=HK1.out;have:=HK2.out;omega⟩,⟨by (with_reducible repeat (first|apply Kd.R_alloc|apply Kd.R_drewN|apply Kd.R_drew));exact HO_3.out⟩,⟨zw⟩⟩
         · have H':=z0 H
           clear H
           obtain ⟨p7,q7,hx7⟩:=zb a0 x8_2
           go_wp2
           go_roundg k2
           case measure=>have:=HK1.out;have:=HK2.out;omega
           case rel=>exact ⟨(x6_2),(wrap64 (x8_2+1)),zr,zr,H',⟨by have:=HK1.out;have:=HK2.out;omega⟩,⟨by (with_reducible repeat (first|apply Kd.R_alloc|apply Kd.R_drewN|apply Kd.R_drew));exact HO_3.out⟩,⟨zw⟩⟩
       · have HC9:=z0 H
         clear H
         go_upto_region 11 with (fail)
         go_cut [42] (fun v42 wc=>∃(kq:Nat) (x42_8:Bool),v42= .bool x42_8∧Aside0 (smockingref02_All.j2 kq a0 x3_1 x4_1 x6_2 t141 x42_8=some r)∧Aside0 (kq≤k2)∧Aside0 (Kd.R k95 95 wc w.heap.size (fun _=>True) u3 x3_1)∧Aside0 (Below w.heap.size w wc))
         case first=>
          have H:=HC9.out
          clear HC9
          replace H:=ze H
          rcases H with ⟨c10b0,c10b1,H⟩|⟨c10b0,c10b1,H⟩
          · (first|rw [c10b0]|(simp only [i64_w,i32_w];rw [c10b0])|skip)
            replace H:=zdn H
            obtain ⟨c11b0,H⟩:=H
            replace H:=zdn H
            obtain ⟨c12b0,H⟩:=H
            replace H:=zg H
            rcases H with ⟨c14b0,H⟩|⟨c14b0,H⟩
            · have H':=z0 H
              clear H
              obtain ⟨p13,q13,hx13⟩:=zb a0 x5_1
              go_wp2
              go_meet
              case rel=>exact ⟨_,(decide ((bt a0 x5_1)≤13)),zr,H',⟨by have:=HK1.out;have:=HK2.out;first|omega|exact Nat.le_refl _⟩,⟨by (with_reducible repeat (first|apply Kd.R_alloc|apply Kd.R_drewN|apply Kd.R_drew));exact HO_3.out⟩,⟨zw⟩⟩
            · have H':=z0 H
              clear H
              obtain ⟨p13,q13,hx13⟩:=zb a0 x5_1
              go_wp2
              go_meet
              case rel=>exact ⟨_,(false),zr,H',⟨by have:=HK1.out;have:=HK2.out;first|omega|exact Nat.le_refl _⟩,⟨by (with_reducible repeat (first|apply Kd.R_alloc|apply Kd.R_drewN|apply Kd.R_drew));exact HO_3.out⟩,⟨zw⟩⟩
          · (first|rw [c10b0]|(simp only [i64_w,i32_w];rw [c10b0])|skip)
            have H':=z0 H
            clear H
            go_wp2
            go_meet
            case rel=>exact ⟨_,(false),zr,H',⟨by have:=HK1.out;have:=HK2.out;first|omega|exact Nat.le_refl _⟩,⟨by (with_reducible repeat (first|apply Kd.R_alloc|apply Kd.R_drewN|apply Kd.R_drew));exact HO_3.out⟩,⟨zw⟩⟩
         case rest=>
          clear HC9
          (try clear c1);(try clear p1);(try clear q1);(try clear hx1);(try clear p2);(try clear c3);(try clear c3b0);(try clear c4);(try clear c4b0);(try clear c5);(try clear c5b0);(try clear c6);(try clear c6b0);(try clear p6);(try clear p7);(try clear q7);(try clear hx7);(try clear c8);(try clear c8b0);(try clear c8b1);(try clear c10);(try clear c10b0);(try clear c10b1);(try clear c11);(try clear c11b0);(try clear c12);(try clear c12b0);(try clear c13);(try clear p13);(try clear q13);(try clear hx13);(try clear c14);(try clear c14b0);(try clear p15);(try clear q15);(try clear hx15);(try clear p13);(try clear p15);(try clear p2);(try clear p7);(try clear q13);(try clear q15);(try clear q7)
          obtain ⟨kq,x42_8,rfl,HA,HJ8,HO_3,HB⟩:=hcut
          cases kq with
          |zero=>exact absurd HA.out (by simp [smockingref02_All.j2])
          |succ kj8=>
           have H:=HA.out
           clear HA
           simp only [smockingref02_All.j2] at H
           by_cases c16:x42_8=true
           · subst c16
             rw [if_pos rfl] at H
             have H':=z0 H
             clear H
             go_wp2
             go_roundg kj8
             case measure=>have:=HK1.out;have:=HK2.out;have:=HJ8.out;omega
             case rel=>exact ⟨(x3_1),(x4_1),(t141),(false),zr,zr,zr,H',⟨by have:=HK1.out;have:=HK2.out;have:=HJ8.out;omega⟩,⟨by (with_reducible repeat (first|apply Kd.R_alloc|apply Kd.R_drewN|apply Kd.R_drew));exact HO_3.out⟩,⟨zw⟩⟩
           · replace c16:=Bool.eq_false_iff.mpr c16
             subst c16
             rw [if_neg nofun] at H
             have H':=z0 H
             clear H
             go_wp2
             go_roundg kj8
             case measure=>have:=HK1.out;have:=HK2.out;have:=HJ8.out;omega
             case rel=>exact ⟨(x3_1),(x4_1),(t141),(x6_2),zr,zr,zr,H',⟨by have:=HK1.out;have:=HK2.out;have:=HJ8.out;omega⟩,⟨by (with_reducible repeat (first|apply Kd.R_alloc|apply Kd.R_drewN|apply Kd.R_drew));exact HO_3.out⟩,⟨zw⟩⟩
   · replace H:=ze H
     rcases H with ⟨c17b0,c17b1,H⟩|⟨c17b0,c17b1,H⟩
     · replace H:=zyn H
       obtain ⟨c18b0,c18b1,H⟩:=H
       replace H:=zyn H
       obtain ⟨c19b0,c19b1,H⟩:=H
       by_cases c20:x3_1.length<2932031007402
       · rw [if_pos c20] at H
         have LMc20:=z0 c20
         clear c20
         obtain ⟨y142,hy142⟩:∃y_:List (S95),y_=(x3_1++[(⟨0,a0.extract (x4_1:Int).toNat a0.size,(⟨#[]⟩:ByteArray),x5_1⟩:S95)]):=⟨_,rfl⟩
         replace H:(some y142)=some r:=by first|(rw [hy142];with_reducible exact H)|(have H2_:=(Option.bind_some _ _).symm.trans H;rw [hy142];with_reducible exact H2_)|(have H2_:=(Option.bind_some _ _).symm.trans H;with_reducible exact H2_)|with_reducible exact H|(rw [hy142];exact H)|exact H
         have Ny142:=z0 hy142
         clear hy142
         obtain rfl:=Option.some.inj H
         go_wp2_with (first|(refine zc 13 rfl Tryz.func138 #[.string a0,.int .i64 x5_1] ?_;refine za (smockingref02_piece.calls k1 a0 x5_1 t141 _ A2.out) fun nd=> ?_)|((with_reducible refine gate_builtin (b:= .append) (xs:= #[.tmp 48,.tmp 54]) rfl ?_);at_builtin;refine Kd.R_append k95 (w0:=w) w.heap.size rfl (.tmp 48) (.tmp 54) 52 95 (.agg #[(.int .i64 0),(.string ⟨#[]⟩),(.string ⟨#[]⟩),(.int .i64 0)]) 48 rfl Tryz.underlying52 info95 rfl (by decide) (by omega) u3 x3_1 (⟨0,a0.extract (x4_1:Int).toNat a0.size,(⟨#[]⟩:ByteArray),x5_1⟩:S95) [.int .i64 0,.string (a0.extract (x4_1:Int).toNat a0.size),.string (⟨#[]⟩:ByteArray),.int .i64 x5_1] (fun _=>True) (fun _=>False) rfl rfl ?aP (fun _ hk=>hk.elim) ?aF ?aO ?aB ?aS ?aL ?_;(case aP=>exact k95_mkM _ _ _ (⟨0,a0.extract (x4_1:Int).toNat a0.size,(⟨#[]⟩:ByteArray),x5_1⟩:S95));(case aB=>exact zw);(case aF=>exact (fun _ _=>trivial));(case aO=>exact (by (with_reducible repeat (first|apply Kd.R_alloc|apply Kd.R_drewN|apply Kd.R_drew));exact HO_3.out));(case aS=>exact (below_size zw));(case aL=>have:=LMc20.out;omega);intro v143 w21 ho hb hg hat;rw [←Ny142.out] at ho;have n0_:=z0 (hb);have n1_:=z0 (ho);revert n0_ n1_;clear HB HO_3;intro HB HO144;clear ho hb hg hat))
         go_ret
         exact ⟨_,zv,by (with_reducible repeat (first|apply Kd.R_alloc|apply Kd.R_drewN|apply Kd.R_drew));exact HO144.out,zw⟩
       · rw [if_neg c20] at H
         cases H
     · replace H:=zo H
       obtain ⟨⟨t145,t146⟩,A22,H⟩:=H
       (try dsimp only at H)
       replace H:=zyn H
       obtain ⟨c23b0,c23b1,H⟩:=H
       replace H:=zyn H
       obtain ⟨c24b0,c24b1,H⟩:=H
       replace H:=zyn H
       obtain ⟨c25b0,c25b1,H⟩:=H
       replace H:=zyn H
       obtain ⟨c26b0,c26b1,H⟩:=H
       replace H:=zyn H
       obtain ⟨c27b0,c27b1,H⟩:=H
       replace H:=zyn H
       obtain ⟨c28b0,c28b1,H⟩:=H
       by_cases c29:x3_1.length<2932031007402
       · rw [if_pos c29] at H
         have LMc29:=z0 c29
         clear c29
         obtain ⟨y147,hy147⟩:∃y_:List (S95),y_=(x3_1++[(⟨t145,a0.extract (x4_1:Int).toNat (x5_1:Int).toNat,a0.extract (x5_1:Int).toNat (t146:Int).toNat,x5_1⟩:S95)]):=⟨_,rfl⟩
         replace H:(smockingref02_All.l0 k1 a0 y147 t146 t146 false)=some r:=by first|(rw [hy147];with_reducible exact H)|(have H2_:=(Option.bind_some _ _).symm.trans H;rw [hy147];with_reducible exact H2_)|(have H2_:=(Option.bind_some _ _).symm.trans H;with_reducible exact H2_)|with_reducible exact H|(rw [hy147];exact H)|exact H
         have Ny147:=z0 hy147
         clear hy147
         have H':=z0 H
         clear H
         try go_wp2_with (first|(refine zc 13 rfl Tryz.func138 #[.string a0,.int .i64 x5_1] ?_;refine za (smockingref02_piece.calls k1 a0 x5_1 t141 _ A2.out) fun nd=> ?_)|(refine zc 60 rfl Tryz.func139 #[.string a0,.int .i64 x5_1,.bool x6_1] ?_;(with_reducible refine (smockingref02_token.calls k1 a0 x5_1 x6_1 t145 t146 _ A22.out).mono ?_);rintro e w30 ⟨rfl,hb⟩;refine ⟨_,rfl,?_⟩;have n0_:=z0 (Kd.R_below (by (with_reducible repeat (first|apply Kd.R_alloc|apply Kd.R_drewN|apply Kd.R_drew));exact HO_3.out) hb);have n1_:=z0 (below_step zw hb);revert n0_ n1_;clear HO_3 HB;intro HO_3 HB;(try clear hb);(try clear hk);(try clear hi)))
         have n0_:=z0 (Kd.R_drew HO_3.out)
         have n1_:=z0 (below_drew1 HB.out)
         clear HO_3 HB
         have HO_3:=n0_
         have HB:=n1_
         clear n0_ n1_
         refine start_ (n:=15) (S:=fun w'=>True) (ds:=[]) #[false,false,false,false,false,false,false,false,false,false,false,false,false,false,false] zf rfl rfl trivial (fun hHeld=> ?_);refine with_tabW smockingref02_All.tab17 smockingref02_All.bits17 (fun HT_ HW_=> ?_)
         generalize w30.drew=w31 at HO_3 HB hHeld ⊢
         refine pure_ (i:=0) (N:=some 63) (v:= ?_) (a':= ?_) #[true,false,false,false,false,false,false,false,false,false,false,false,false,false,false] rfl rfl (any_of HT_.out zf) (fun _ _ _ h=>h) (Or.inl ⟨by rfl,?_⟩) ?_ ?_
         rotate_left
         · intro w'
           go_simp
           with_reducible rfl
         rotate_left
         · simp only [Act.put,List.setIfInBounds_toArray,List.set_cons_zero,List.set_cons_succ,i64_w,i32_w]
           rfl
         refine pure_ (i:=1) (N:=some 64) (v:= ?_) (a':= ?_) #[true,true,false,false,false,false,false,false,false,false,false,false,false,false,false] rfl rfl (any_of HT_.out zf) (fun _ _ _ h=>h) (Or.inl ⟨by rfl,?_⟩) ?_ ?_
         rotate_left
         · intro w'
           go_simp
           with_reducible rfl
         rotate_left
         · simp only [Act.put,List.setIfInBounds_toArray,List.set_cons_zero,List.set_cons_succ,i64_w,i32_w]
           rfl
         refine pure_ (i:=2) (N:=some 65) (v:= ?_) (a':= ?_) #[true,true,true,false,false,false,false,false,false,false,false,false,false,false,false] rfl rfl (any_of HT_.out zf) (fun _ _ _ h=>h) (Or.inl ⟨by rfl,?_⟩) ?_ ?_
         rotate_left
         · intro w'
           go_simp
           with_reducible rfl
         rotate_left
         · simp only [Act.put,List.setIfInBounds_toArray,List.set_cons_zero,List.set_cons_succ,i64_w,i32_w]
           rfl
         refine pure_ (i:=3) (N:=some 66) (v:= ?_) (a':= ?_) #[true,true,true,true,false,false,false,false,false,false,false,false,false,false,false] rfl rfl (any_of HT_.out zf) (fun _ _ _ h=>h) (Or.inl ⟨by rfl,?_⟩) ?_ ?_
         rotate_left
         · intro w'
           go_simp
           with_reducible rfl
         rotate_left
         · simp only [Act.put,List.setIfInBounds_toArray,List.set_cons_zero,List.set_cons_succ,i64_w,i32_w]
           rfl
         refine pure_ (i:=4) (N:=some 67) (v:= ?_) (a':= ?_) #[true,true,true,true,true,false,false,false,false,false,false,false,false,false,false] rfl rfl (any_of HT_.out zf) (fun _ _ _ h=>h) (Or.inl ⟨by rfl,?_⟩) ?_ ?_
         rotate_left
         · intro w'
           go_simp
           with_reducible rfl
         rotate_left
         · simp only [Act.put,List.setIfInBounds_toArray,List.set_cons_zero,List.set_cons_succ,i64_w,i32_w]
           rfl
         refine pure_ (i:=5) (N:=some 68) (v:= ?_) (a':= ?_) #[true,true,true,true,true,true,false,false,false,false,false,false,false,false,false] rfl rfl (any_of HT_.out zf) (fun _ _ _ h=>h) (Or.inl ⟨by rfl,?_⟩) ?_ ?_
         rotate_left
         · intro w'
           go_simp
           with_reducible rfl
         rotate_left
         · simp only [Act.put,List.setIfInBounds_toArray,List.set_cons_zero,List.set_cons_succ,i64_w,i32_w]
           rfl
         refine pure_ (i:=6) (N:=some 69) (v:= ?_) (a':= ?_) #[true,true,true,true,true,true,true,false,false,false,false,false,false,false,false] rfl rfl (any_of HT_.out zf) (fun _ _ _ h=>h) (Or.inl ⟨by rfl,?_⟩) ?_ ?_
         rotate_left
         · intro w'
           go_simp
           with_reducible rfl
         rotate_left
         · simp only [Act.put,List.setIfInBounds_toArray,List.set_cons_zero,List.set_cons_succ,i64_w,i32_w]
           rfl
         refine pure_ (i:=7) (N:=some 70) (v:= ?_) (a':= ?_) #[true,true,true,true,true,true,true,true,false,false,false,false,false,false,false] rfl rfl (any_of HT_.out zf) (fun _ _ _ h=>h) (Or.inl ⟨by rfl,?_⟩) ?_ ?_
         rotate_left
         · intro w'
           go_simp
           with_reducible rfl
         rotate_left
         · simp only [Act.put,List.setIfInBounds_toArray,List.set_cons_zero,List.set_cons_succ,i64_w,i32_w]
           rfl
         refine pure_ (i:=8) (N:=some 71) (v:= ?_) (a':= ?_) #[true,true,true,true,true,true,true,true,true,false,false,false,false,false,false] rfl rfl (any_of HT_.out zf) (fun _ _ _ h=>h) (Or.inl ⟨by rfl,?_⟩) ?_ ?_
         rotate_left
         · intro w'
           go_simp
           with_reducible rfl
         rotate_left
         · simp only [Act.put,List.setIfInBounds_toArray,List.set_cons_zero,List.set_cons_succ,i64_w,i32_w]
           rfl
         refine pure_ (i:=9) (N:=some 72) (v:= ?_) (a':= ?_) #[true,true,true,true,true,true,true,true,true,true,false,false,false,false,false] rfl rfl (any_of HT_.out zf) (fun _ _ _ h=>h) (Or.inl ⟨by rfl,?_⟩) ?_ ?_
         rotate_left
         · intro w'
           go_simp
           with_reducible rfl
         rotate_left
         · simp only [Act.put,List.setIfInBounds_toArray,List.set_cons_zero,List.set_cons_succ,i64_w,i32_w]
           rfl
         refine pure_ (i:=10) (N:=some 73) (v:= ?_) (a':= ?_) #[true,true,true,true,true,true,true,true,true,true,true,false,false,false,false] rfl rfl (any_of HT_.out zf) (fun _ _ _ h=>h) (Or.inl ⟨by rfl,?_⟩) ?_ ?_
         rotate_left
         · intro w'
           go_simp
           with_reducible rfl
         rotate_left
         · simp only [Act.put,List.setIfInBounds_toArray,List.set_cons_zero,List.set_cons_succ,i64_w,i32_w]
           rfl
         refine pure_ (i:=11) (N:=some 74) (v:= ?_) (a':= ?_) #[true,true,true,true,true,true,true,true,true,true,true,true,false,false,false] rfl rfl (any_of HT_.out zf) (fun _ _ _ h=>h) (Or.inl ⟨by rfl,?_⟩) ?_ ?_
         rotate_left
         · intro w'
           go_simp
           with_reducible rfl
         rotate_left
         · simp only [Act.put,List.setIfInBounds_toArray,List.set_cons_zero,List.set_cons_succ,i64_w,i32_w]
           rfl
         refine one_ (i:=12) (N:=some 75) #[true,true,true,true,true,true,true,true,true,true,true,true,true,false,false] rfl rfl (one_of HT_.out zf) (by decide) (fun K hK=> ?_)
         refine value_ (w1:= ?_) (v:= ?_) (by rfl) rfl ?_ ?_
         rotate_left 2
         · go_simp
           constructor
           · rfl
           · rfl
         refine hK.out _ _ trivial (fun hHeld=> ?_)
         clear hK K
         refine norm_ (a':= ?_) ?_ ?_
         rotate_left
         · show Act.put _ (some 75) _=_
           simp only [Act.put,List.setIfInBounds_toArray,List.set_cons_zero,List.set_cons_succ,i64_w,i32_w]
           rfl
         refine one_ (i:=13) (N:=some 76) #[true,true,true,true,true,true,true,true,true,true,true,true,true,true,false] rfl rfl (one_of HT_.out zf) (by decide) (fun K hK=> ?_)
         refine Kd.R_append_step k95 (w0:=w) w.heap.size (by rfl) (.tmp 63) (.tmp 75) 52 95 (.agg #[(.int .i64 0),(.string ⟨#[]⟩),(.string ⟨#[]⟩),(.int .i64 0)]) 48 rfl Tryz.underlying52 info95 rfl (by decide) (by omega) u3 x3_1 (⟨t145,a0.extract (x4_1:Int).toNat (x5_1:Int).toNat,a0.extract (x5_1:Int).toNat (t146:Int).toNat,x5_1⟩:S95) [.int .i64 t145,.string (a0.extract (x4_1:Int).toNat (x5_1:Int).toNat),.string (a0.extract (x5_1:Int).toNat (t146:Int).toNat),.int .i64 x5_1] (fun _=>True) (fun _=>False) rfl rfl ?aP (fun _ hk=>hk.elim) ?aF ?aO ?aB ?aS ?aL ?_
         (case aP=>exact k95_mkM _ _ _ (⟨t145,a0.extract (x4_1:Int).toNat (x5_1:Int).toNat,a0.extract (x5_1:Int).toNat (t146:Int).toNat,x5_1⟩:S95))
         (case aB=>exact zw)
         (case aF=>exact (fun _ _=>trivial))
         (case aO=>exact (by (with_reducible repeat (first|apply Kd.R_alloc|apply Kd.R_drewN|apply Kd.R_drew));exact HO_3.out))
         (case aS=>exact (below_size zw))
         (case aL=>have:=LMc29.out;omega)
         intro v148 w32 ho hb hg hat
         rw [←Ny147.out] at ho
         have n0_:=z0 (hb)
         have n1_:=z0 (ho)
         clear HB HO_3
         have HB:=n0_
         have HO149:=n1_
         clear n0_ n1_
         clear ho hb hg hat
         refine hK.out _ _ trivial (fun hHeld=> ?_)
         clear hK K
         refine norm_ (a':= ?_) ?_ ?_
         rotate_left
         · show Act.put _ (some 76) _=_
           simp only [Act.put,List.setIfInBounds_toArray,List.set_cons_zero,List.set_cons_succ,i64_w,i32_w]
           rfl
         refine pure_ (i:=14) (N:=some 3) (v:= ?_) (a':= ?_) #[true,true,true,true,true,true,true,true,true,true,true,true,true,true,true] rfl rfl (any_of HT_.out zf) (fun _ _ _ h=>h) (Or.inl ⟨by rfl,?_⟩) ?_ ?_
         rotate_left
         · intro w'
           go_simp
           with_reducible rfl
         rotate_left
         · simp only [Act.put,List.setIfInBounds_toArray,List.set_cons_zero,List.set_cons_succ,i64_w,i32_w]
           rfl
         refine done_ (done_of HT_.out zf) ?_
         try go_wp2
         go_roundg k1
         case measure=>have:=HK1.out;omega
         case rel=>exact ⟨(y147),(t146),(t146),(false),zr,zr,zr,H',⟨by have:=HK1.out;omega⟩,⟨by (with_reducible repeat (first|apply Kd.R_alloc|apply Kd.R_drewN|apply Kd.R_drew));exact HO149.out⟩,⟨zw⟩⟩
       · rw [if_neg c29] at H
         cases H
def smockingref02_Scan.f (k:Nat)(a0:ByteArray):Option ((List (S95)) × Int):=if (a0.size:Int)>200000 then (some (([]:List (S95)),2)) else ((smockingref02_All.f k a0).bind fun t150=>(if (t150.length:Int)>40000 then (some (([]:List (S95)),2)) else (some (t150,0))))
theorem smockingref02_Scan.calls (k:Nat)(a0:ByteArray)(r1:List (S95))(r2:Int)(w:World)(h:smockingref02_Scan.f k a0=some (r1,r2)):
 Calls Tryz.prog 46 #[.string a0] w fun e w'=>∃v0_:Value,e= .returned (.tuple #[v0_,.int .i64 r2])∧Kd.R k95 95 w' w.heap.size (fun _=>True) v0_ r1∧Below w.heap.size w w':=by
 have HB:=z0 (Below.refl w.heap.size w)
 have H:=h
 clear h
 unfold smockingref02_Scan.f at H
 by_cases c2:(a0.size:Int)>200000
 · rw [if_pos c2] at H
   have c2b0:decide (200000<(a0.size:Int))=true:=decide_eq_true c2
   have c2b1:decide (200000<a0.size)=true:=decide_eq_true (by omega)
   clear c2
   simp only [Option.some.injEq,Prod.mk.injEq] at H
   obtain ⟨rfl,rfl⟩:=H
   go_enter Tryz.func46,Tryz.ntmps46
   go_wp2
   go_ret2
   exact ⟨_,zv,by first|exact Kd.R_nil _ _ _ _ _|exact Kd.N_nil _ _ _ _ _|exact Kd.V_nil _ _ _ _ _|exact Kd.Q_nil _ _ _ _ _|exact Kd.S_nil _ _ _ _ _,zw⟩
 · rw [if_neg c2] at H
   have c2b0:decide (200000<(a0.size:Int))=false:=decide_eq_false c2
   have c2b1:decide (200000<a0.size)=false:=decide_eq_false (by omega)
   clear c2
   replace H:=zo H
   obtain ⟨t150,A3,H⟩:=H
   (try dsimp only at H)
   by_cases c4:(t150.length:Int)>40000
   · rw [if_pos c4] at H
     have c4b0:decide (40000<(t150.length:Int))=true:=decide_eq_true c4
     have c4b1:decide (40000<t150.length)=true:=decide_eq_true (by omega)
     clear c4
     simp only [Option.some.injEq,Prod.mk.injEq] at H
     obtain ⟨rfl,rfl⟩:=H
     go_enter Tryz.func46,Tryz.ntmps46
     go_wp2_with (first|(refine zc 9 rfl Tryz.func81 #[.string a0] ?_;(with_reducible refine (smockingref02_All.calls k a0 t150 _ A3.out).mono ?_);rintro e w5 ⟨v151,rfl,ho0,hb⟩;refine ⟨_,rfl,?_⟩;have n0_:=z0 (Kd.R_lower ho0 (below_size zw));have n1_:=z0 (below_step zw hb);revert n0_ n1_;clear HB;intro HO152 HB;(try clear hb);(try clear hk);(try clear hi);(try clear ho0);obtain ⟨Ao6,co6,eo6⟩:=Kd.R_slice HO152.out;subst eo6))
     go_ret2
     exact ⟨_,zv,by first|exact Kd.R_nil _ _ _ _ _|exact Kd.N_nil _ _ _ _ _|exact Kd.V_nil _ _ _ _ _|exact Kd.Q_nil _ _ _ _ _|exact Kd.S_nil _ _ _ _ _,zw⟩
   · rw [if_neg c4] at H
     have c4b0:decide (40000<(t150.length:Int))=false:=decide_eq_false c4
     have c4b1:decide (40000<t150.length)=false:=decide_eq_false (by omega)
     clear c4
     simp only [Option.some.injEq,Prod.mk.injEq] at H
     obtain ⟨rfl,rfl⟩:=H
     go_enter Tryz.func46,Tryz.ntmps46
     go_wp2_with (first|(refine zc 9 rfl Tryz.func81 #[.string a0] ?_;(with_reducible refine (smockingref02_All.calls k a0 t150 _ A3.out).mono ?_);rintro e w7 ⟨v151,rfl,ho0,hb⟩;refine ⟨_,rfl,?_⟩;have n0_:=z0 (Kd.R_lower ho0 (below_size zw));have n1_:=z0 (below_step zw hb);revert n0_ n1_;clear HB;intro HO152 HB;(try clear hb);(try clear hk);(try clear hi);(try clear ho0);obtain ⟨Ao8,co8,eo8⟩:=Kd.R_slice HO152.out;subst eo8))
     go_ret2
     exact ⟨_,zv,by (with_reducible repeat (first|apply Kd.R_alloc|apply Kd.R_drewN|apply Kd.R_drew));exact HO152.out,zw⟩
end Go.Proofs.YtolaiebjmhieiaaGreatDoor.ORef
end
section
namespace Go.Proofs.YtolaiebjmhieiaaGreatDoor.OScan
open Go.RowKit YtolaiebjmhieiaaGreatDoorW.PrintWords YtolaiebjmhieiaaGreatDoorW.PrintLast YtolaiebjmhieiaaGreatDoorW.PrintMore
open ORef
theorem r_letter (a:Int):smockingref02_letter.f a=some (isL a):=isL_eq a
theorem r_digit (a:Int):smockingref02_digit.f a=some (isD a):=isD_eq a
theorem r_byteAt (s:ByteArray)(i:Int)(h:0≤i):smockingref02_byteAt.f s i=some (nx s i):=by
 unfold smockingref02_byteAt.f nx
 rw [if_neg (by omega)]
 by_cases h1:i≥(s.size:Int)
 · rw [if_pos h1,if_pos h1]
 · rw [if_neg h1,if_neg h1,if_pos h,if_pos (by omega)]
theorem prefix_len {a b:List UInt8}(h:b.isPrefixOf a=true):b.length≤a.length:=(List.isPrefixOf_iff_prefix.1 h).length_le
theorem r_begins (s:ByteArray)(i:Int)(t:ByteArray)(hs:s.size≤1000000)(ht:t.size≤1000000)(h0:0≤i)(h1:i≤s.size):smockingref02_begins.f s i t=some (t.data.toList.isPrefixOf (sfx s i)):=by
 have hl:=sfx_len s i
 have htl:t.data.toList.length=t.size:=rfl
 unfold smockingref02_begins.f
 rw [wr (a:=(s.size:Int)-i) (by omega) (by omega),wr (a:=i+(t.size:Int)) (by omega) (by omega)]
 by_cases h:(s.size:Int)-i≥t.size
 · rw [if_pos h,if_pos h0,if_pos (by omega),if_pos (by omega),extract_bA s i t.size h0]
   simp only [Option.some.injEq]
   rw [Lib.toList_data,Lib.toList_data,Bool.eq_iff_iff,List.isPrefixOf_iff_prefix,beq_iff_eq,List.prefix_iff_eq_take]
   have:(bA ((sfx s i).take t.size)).data.toList=(sfx s i).take t.size:=by unfold bA;simp
   rw [this,htl]
   exact ⟨fun h=>h.symm,fun h=>h.symm⟩
 · rw [if_neg h]
   simp only [Option.some.injEq]
   rw [eq_comm,Bool.eq_false_iff]
   intro hp
   have:=prefix_len hp
   omega
theorem r_comment_l0 (s:ByteArray)(hs:s.size≤1000000):∀(d k:Nat) (i:Int),0≤i→i≤s.size→(s.size:Int)-i≤d→d<k→smockingref02_comment.l0 k s i=some (i+spanL (fun x=>x !=10) (sfx s i))
 |d,0,_,_,_,_,h=>by omega
 |d,k+1,i,h0,h1,hd_,hk=>by
  rw [smockingref02_comment.l0]
  by_cases hp:i<s.size
  · obtain ⟨d',rfl⟩:∃d',d=d'+1:=⟨d-1,by omega⟩
    have ih:=r_comment_l0 s hs d' k (i+1) (by omega) (by omega) (by omega) (by omega)
    obtain ⟨b,e1,e2,_⟩:=sfx_cons s i h0 hp
    have y10:((b.toNat:Int)=10)↔b=10:=u8_eq b 10 (by decide)
    rw [if_pos hp,if_pos h0,e1,e2,wr (by omega) (by omega),ih,spanL]
    by_cases q:b=10
    · rw [if_pos (y10.2 q),if_neg (by simp [q])];simp
    · rw [if_neg (fun h=>q (y10.1 h)),if_pos (by simp [q])]
      simp only [Option.some.injEq]
      omega
  · rw [if_neg hp,sfx_nil s i (by omega)]
    simp [spanL]
theorem r_comment_l1 (s:ByteArray)(hs:s.size≤1000000):∀(d k:Nat) (i:Int),0≤i→i≤s.size→(s.size:Int)-i≤d→d<k→smockingref02_comment.l1 k s i=some (if Lib.index (sfx s i) [42,47]<0 then (s.size:Int) else i+Lib.index (sfx s i) [42,47]+2)
 |d,0,_,_,_,_,h=>by omega
 |d,k+1,i,h0,h1,hd_,hk=>by
  rw [smockingref02_comment.l1]
  by_cases hp:i<s.size
  · obtain ⟨d',rfl⟩:∃d',d=d'+1:=⟨d-1,by omega⟩
    have ih:=r_comment_l1 s hs d' k (i+1) (by omega) (by omega) (by omega) (by omega)
    obtain ⟨b,e1,e2,_⟩:=sfx_cons s i h0 hp
    rw [if_pos hp,r_begins s i ⟨#[42,47]⟩ hs (by decide) h0 h1,wr (a:=i+2) (by omega) (by omega),wr (a:=i+1) (by omega) (by omega),ih]
    have e42:(⟨#[42,47]⟩:ByteArray).data.toList=[42,47]:=rfl
    simp only [Option.bind_some,e1]
    have hI:Lib.index (b::sfx s (i+1)) [42,47]=if [42,47].isPrefixOf (b::sfx s (i+1))=true then 0 else if (Lib.index (sfx s (i+1)) [42,47]== -1)=true then-1 else Lib.index (sfx s (i+1)) [42,47]+1:=rfl
    rw [hI]
    have hg:=Lib.index_ge (sfx s (i+1)) [42,47]
    generalize Lib.index (sfx s (i+1)) [42,47]=t at *
    by_cases q:[42,47].isPrefixOf (b::sfx s (i+1))=true
    · rw [if_pos q,if_pos q,if_neg (by decide)]
      simp
    · rw [if_neg q,if_neg q]
      by_cases q2:t= -1
      · subst q2;simp
      · rw [if_neg (show ¬(t== -1)=true by simpa using q2),if_neg (by omega),if_neg (by omega)]
        simp only [Option.some.injEq]
        omega
  · rw [if_neg hp,sfx_nil s i (by omega)]
    rfl
theorem r_comment (s:ByteArray)(i:Int)(c:Bool)(hs:s.size≤1000000)(h0:0≤i)(h1:i≤s.size)(k:Nat)(hk:s.size<k):smockingref02_comment.f k s i=some (i+(match comL c (sfx s i) with|none=>0|some r=>r.1)):=by
 have hl:=sfx_len s i
 unfold smockingref02_comment.f comL
 rw [r_begins s i ⟨#[47,47]⟩ hs (by decide) h0 h1,r_begins s i ⟨#[47,42]⟩ hs (by decide) h0 h1]
 simp only [Option.bind_some]
 by_cases q1:[47,47].isPrefixOf (sfx s i)=true
 · rw [if_pos q1,if_pos q1,r_comment_l0 s hs s.size k i h0 h1 (by omega) hk]
 · rw [if_neg q1,if_neg q1]
   by_cases q2:[47,42].isPrefixOf (sfx s i)=true
   · have hle:=prefix_len q2
     simp only [List.length_cons,List.length_nil] at hle
     have hd2:sfx s (i+2)=(sfx s i).drop 2:=sfx_drop s i 2 h0
     rw [if_pos q2,if_pos q2,wr (by omega) (by omega),r_comment_l1 s hs s.size k (i+2) (by omega) (by omega) (by omega) hk,hd2]
     simp only
     unfold blkE
     by_cases q3:Lib.index ((sfx s i).drop 2) [42,47]<0
     · rw [if_pos q3,if_pos q3]
       simp only [Option.some.injEq]
       omega
     · rw [if_neg q3,if_neg q3]
       simp only [Option.some.injEq]
       omega
   · rw [if_neg q2,if_neg q2]
     simp
theorem r_piece (s:ByteArray)(i:Int)(c:Bool)(hs:s.size≤1000000)(h0:0≤i)(h1:i≤s.size)(k:Nat)(hk:s.size+1<k):smockingref02_piece.f k s i=some (i+(match pieceL (sfx s i) c with|none=>0|some r=>r.1)):=by
 obtain ⟨k,rfl⟩:∃m,k=m+1:=⟨k-1,by omega⟩
 have hcm:=r_comment s i c hs h0 h1 k (by omega)
 have w1:=wr (a:=i+1) (by omega) (by omega)
 have w2:=wr (a:=i+2) (by omega) (by omega)
 have w3:=wr (a:=i+3) (by omega) (by omega)
 have hx1:nx s (i+1)=hd (sfx s (i+1)):=nx_hd s _ (by omega)
 have hx2:nx s (i+2)=hd (sfx s (i+1)).tail:=by
  rw [nx_hd s _ (by omega),show i+2=i+1+1 by omega,sfx_tail s _ (by omega)]
 unfold smockingref02_piece.f
 rw [r_byteAt s i h0]
 simp only [Option.bind_some,smockingref02_piece.j0,w1,w2,w3,r_byteAt s (i+1) (by omega),r_byteAt s (i+2) (by omega),hx1,hx2,hcm]
 by_cases hp:i<s.size
 · obtain ⟨b,e1,e2,e3⟩:=sfx_cons s i h0 hp
   rw [e1,e3,pieceL]
   have y10:((b.toNat:Int)=10)↔b=10:=u8_eq b 10 (by decide)
   have y32:((b.toNat:Int)=32)↔b=32:=u8_eq b 32 (by decide)
   have y9:((b.toNat:Int)=9)↔b=9:=u8_eq b 9 (by decide)
   have y11:((b.toNat:Int)=11)↔b=11:=u8_eq b 11 (by decide)
   have y12:((b.toNat:Int)=12)↔b=12:=u8_eq b 12 (by decide)
   have y13:((b.toNat:Int)=13)↔b=13:=u8_eq b 13 (by decide)
   have y92:((b.toNat:Int)=92)↔b=92:=u8_eq b 92 (by decide)
   simp only [y10,y32,y9,y11,y12,y92,beq_iff_eq,y13]
   by_cases q10:b=10
   · subst q10;simp
   by_cases q32:b=32
   · subst q32;simp
   by_cases q9:b=9
   · subst q9;simp
   by_cases q11:b=11
   · subst q11;simp
   by_cases q12:b=12
   · subst q12;simp
   by_cases q13:b=13
   · subst q13;simp
   simp only [q10,q32,q9,q11,q12,q13,if_false,false_or]
   by_cases q92:b=92
   · simp only [q92,if_true,true_and]
     by_cases q1:hd (sfx s (i+1))=10
     · simp [q1]
     · by_cases q2:hd (sfx s (i+1))=13
       · by_cases q3:hd (sfx s (i+1)).tail=10
         · simp [q2,q3]
         · simp [q2,q3,comL]
       · simp [q1,q2,comL]
   · simp only [q92,if_false,false_and]
 · rw [nx_past s i (by omega),sfx_nil s i (by omega)]
   simp [pieceL,comL]
theorem r_number_l0 (s:ByteArray)(hs:s.size≤1000000):∀(d k:Nat) (x:Int) (p:UInt8),1≤x→x≤s.size→bt s (x-1)=p.toNat→(s.size:Int)-x≤d→2*d<k→smockingref02_number.l0 k s x=some (x+numL p (sfx s x))
 |d,0,_,_,_,_,_,_,h=>by omega
 |d,k+1,x,p,h0,h1,hp0,hd_,hk=>by
  rw [smockingref02_number.l0]
  by_cases hp:x<s.size
  · obtain ⟨d',rfl⟩:∃d',d=d'+1:=⟨d-1,by omega⟩
    obtain ⟨k,rfl⟩:∃m,k=m+1:=⟨k-1,by omega⟩
    obtain ⟨b,e1,e2,_⟩:=sfx_cons s x (by omega) hp
    have ih:=r_number_l0 s hs d' k (x+1) b (by omega) (by omega) (by rw [show x+1-1=x by omega];exact e2) (by omega) (by omega)
    have j:∀x7:Bool,x7=decide ((b=43∨b=45)∧(p=101∨p=69))→smockingref02_number.j1 (k+1) s x b.toNat x7=some (x+numL p (b::sfx s (x+1))):=fun x7 hx7=>by
     rw [smockingref02_number.j1,r_letter,r_digit,wr (by omega) (by omega),ih,numL]
     simp only [Option.bind_some]
     have y46:((b.toNat:Int)=46)↔b=46:=u8_eq b 46 (by decide)
     simp only [y46]
     have e:some (x+1+(numL b (sfx s (x+1)):Int))=some (x+((numL b (sfx s (x+1))+1:Nat):Int)):=by
      simp only [Option.some.injEq];omega
     rw [e]
     unfold isLU isDU
     by_cases q1:isL (b.toNat:Int)=true
     · simp [q1]
     by_cases q2:isD (b.toNat:Int)=true
     · simp [q1,q2]
     by_cases q3:b=46
     · rw [if_neg q1,if_neg q2,if_pos q3,if_pos (.inr (.inr (.inl q3)))]
     rw [if_neg q1,if_neg q2,if_neg q3]
     by_cases q4:(b=43∨b=45)∧(p=101∨p=69)
     · rw [if_pos (by rw [hx7];simpa using q4),if_pos (.inr (.inr (.inr q4)))]
     · rw [if_neg (by rw [hx7];simpa using q4),if_neg (fun h=>by
        rcases h with h|h|h|h
        · exact q1 h
        · exact q2 h
        · exact q3 h
        · exact q4 h)]
       simp
    have y43:((b.toNat:Int)=43)↔b=43:=u8_eq b 43 (by decide)
    have y45:((b.toNat:Int)=45)↔b=45:=u8_eq b 45 (by decide)
    have y101:((p.toNat:Int)=101)↔p=101:=u8_eq p 101 (by decide)
    have y69:((p.toNat:Int)=69)↔p=69:=u8_eq p 69 (by decide)
    have c1:(0:Int)≤x-1:=by omega
    have c2:x-1<(s.size:Int):=by omega
    rw [if_pos hp,if_pos (by omega),e1,e2,wr (a:=x-1) (by omega) (by omega),hp0]
    simp only [y43,y45,y101,if_pos c1,if_pos c2]
    by_cases q4:b=43
    · rw [if_pos q4]
      by_cases q6:p=101
      · rw [if_pos q6];exact j _ (by simp [q4,q6])
      · rw [if_neg q6];exact j _ (by rw [Bool.eq_iff_iff];simp [q4,q6,y69])
    · rw [if_neg q4]
      by_cases q5:b=45
      · rw [if_pos q5]
        by_cases q6:p=101
        · rw [if_pos q6];exact j _ (by simp [q5,q6])
        · rw [if_neg q6];exact j _ (by rw [Bool.eq_iff_iff];simp [q5,q6,y69])
      · rw [if_neg q5];exact j _ (by simp [q4,q5])
  · rw [if_neg hp,sfx_nil s x (by omega)]
    simp [numL]
theorem r_number (s:ByteArray)(i:Int)(hs:s.size≤1000000)(h0:0≤i)(h1:i<s.size)(b:UInt8)(hb:bt s i=b.toNat)(k:Nat)(hk:2*s.size<k):smockingref02_number.f k s i=some (i+((numL b (sfx s (i+1))+1:Nat):Int)):=by
 unfold smockingref02_number.f
 rw [wr (by omega) (by omega),r_number_l0 s hs s.size k (i+1) b (by omega) (by omega) (by rw [show i+1-1=i by omega];exact hb) (by omega) hk]
 simp only [Option.some.injEq]
 omega
theorem r_quoted_l0 (s:ByteArray)(i:Int)(q:UInt8)(hs:s.size≤1000000)(h0:0≤i)(h1:i<s.size)(hq:bt s i=q.toNat)(hq10:q≠10):∀(d k:Nat) (x:Int),i≤x→x≤s.size+1→(s.size:Int)-x≤d→2*d+1<k→smockingref02_quoted.l0 k s i x=some (match quoL q (sfx s x) with|none=>i|some m=>x+m)
 |d,0,_,_,_,_,h=>by omega
 |d,k+1,x,hx0,hx1,hd_,hk=>by
  obtain ⟨k,rfl⟩:∃m,k=m+1:=⟨k-1,by omega⟩
  rw [smockingref02_quoted.l0]
  by_cases hp:x<s.size
  · obtain ⟨d',rfl⟩:∃d',d=d'+1:=⟨d-1,by omega⟩
    obtain ⟨b,e1,e2,_⟩:=sfx_cons s x (by omega) hp
    have ih1:=r_quoted_l0 s i q hs h0 h1 hq hq10 d' k (x+1) (by omega) (by omega) (by omega) (by omega)
    have ih2:=r_quoted_l0 s i q hs h0 h1 hq hq10 d' k (x+1+1) (by omega) (by omega) (by omega) (by omega)
    have y10:((b.toNat:Int)=10)↔b=10:=u8_eq b 10 (by decide)
    have y92:((b.toNat:Int)=92)↔b=92:=u8_eq b 92 (by decide)
    have yq:((b.toNat:Int)=(q.toNat:Int))↔b=q:=by
     constructor
     · intro h;exact UInt8.toNat_inj.1 (by omega)
     · rintro rfl;rfl
    rw [if_pos hp,if_pos (by omega),smockingref02_quoted.j1,e1,e2,quoL.eq_def]
    dsimp only
    by_cases q2:b=10
    · rw [if_neg (by simp [q2]),if_neg (by rw [q2];exact fun h=>hq10 h.symm),if_pos q2]
    · rw [if_pos (by simpa using fun h=>q2 (y10.1 h)),if_pos (by omega),if_pos hp,if_pos h0,if_pos h1,hq,wr (a:=x+1) (by omega) (by omega),wr (a:=x+1+1) (by omega) (by omega)]
      simp only [yq,y92]
      by_cases q1:b=q
      · rw [if_pos q1,if_pos q1]
        simp
      · rw [if_neg q1,if_neg q1,if_neg q2]
        by_cases q3:b=92
        · rw [if_pos q3,if_pos q3]
          by_cases hp2:x+1<s.size
          · obtain ⟨b2,e4,e5,_⟩:=sfx_cons s (x+1) (by omega) hp2
            have y10':((b2.toNat:Int)=10)↔b2=10:=u8_eq b2 10 (by decide)
            rw [if_pos hp2,if_pos (by omega),e4,e5]
            simp only [y10']
            by_cases q4:b2=10
            · rw [if_pos q4,if_pos q4]
            · rw [if_neg q4,if_neg q4,ih2]
              cases quoL q (sfx s (x+1+1)) with
              |none=>rfl
              |some m=>
               show some (x+1+1+(m:Int))=some (x+((m+2:Nat):Int))
               rw [show x+1+1+(m:Int)=x+((m+2:Nat):Int) by omega]
          · rw [if_neg hp2,ih2,sfx_nil s (x+1) (by omega),sfx_nil s (x+1+1) (by omega)]
            simp [quoL]
        · rw [if_neg q3,if_neg q3,ih1]
          cases quoL q (sfx s (x+1)) with
          |none=>rfl
          |some m=>
           show some (x+1+(m:Int))=some (x+((m+1:Nat):Int))
           rw [show x+1+(m:Int)=x+((m+1:Nat):Int) by omega]
  · rw [if_neg hp,smockingref02_quoted.j1,if_neg (by decide),sfx_nil s x (by omega)]
    rfl
theorem r_quoted (s:ByteArray)(i:Int)(q:UInt8)(hs:s.size≤1000000)(h0:0≤i)(h1:i<s.size)(hq:bt s i=q.toNat)(hq10:q≠10)(k:Nat)(hk:2*s.size+1<k):smockingref02_quoted.f k s i=some (i+quotedL q (q::sfx s (i+1))):=by
 unfold smockingref02_quoted.f
 rw [wr (by omega) (by omega),r_quoted_l0 s i q hs h0 h1 hq hq10 s.size k (i+1) (by omega) (by omega) (by omega) hk,quotedL,if_pos rfl]
 cases quoL q (sfx s (i+1)) with
 |none=>simp
 |some m=>
  simp only [Option.some.injEq]
  omega
theorem r_has_l0 (xs:List ByteArray)(a:ByteArray)(hl:xs.length≤1000000):∀(d k i:Nat),i≤xs.length→xs.length-i≤d→d<k→a∉xs.take i→
 ∃r,smockingref00_Has.l0 k xs a (i:Int)=some r∧((r= -1∧a∉xs)∨(0≤r∧a∈xs))
 |d,0,i,_,_,hk,_=>by omega
 |d,k+1,i,h1,hd,hk,hn=>by
  rw [smockingref00_Has.l0]
  by_cases h:i<xs.length
  · rw [if_pos (by omega),if_pos (by omega)]
    have hrd:rdOf ByteArray.empty xs (i:Int)=xs[i]:=by
     show xs.getD (i:Int).toNat ByteArray.empty=_
     rw [List.getD_eq_getElem?_getD,show (i:Int).toNat=i from rfl,List.getElem?_eq_getElem h];rfl
    rw [hrd]
    by_cases he:xs[i].toList=a.toList
    · rw [if_pos he]
      have he':xs[i]=a:=Go.WideShapes.bytes_inj (by rw [ByteArray.toList_eq,ByteArray.toList_eq] at he;exact he)
      exact ⟨i,rfl,.inr ⟨by omega,by rw [←he'];exact List.getElem_mem h⟩⟩
    · rw [if_neg he,wr (by omega) (by omega)]
      cases d with
      |zero=>omega
      |succ d=>
       have hn':a∉xs.take (i+1):=fun hm=>by
        rw [List.take_add_one,List.getElem?_eq_getElem h] at hm
        rcases List.mem_append.1 hm with hm|hm
        · exact hn hm
        · have hm':a=xs[i]:=by simpa using hm
          exact he (by rw [hm'])
       exact r_has_l0 xs a hl d k (i+1) (by omega) (by omega) (by omega) hn'
  · rw [if_neg (by omega)]
    have:xs.take i=xs:=List.take_of_length_le (by omega)
    rw [this] at hn
    exact ⟨-1,rfl,.inl ⟨rfl,hn⟩⟩
theorem r_has (xs:List ByteArray)(a:ByteArray)(hl:xs.length≤1000000)(k:Nat)(hk:xs.length<k):∃r,smockingref00_Has.f k xs a=some r∧((r= -1∧a∉xs)∨(0≤r∧a∈xs)):=
 r_has_l0 xs a hl xs.length k 0 (Nat.zero_le _) (by omega) hk (by simp)
theorem contains_mem (xs:List ByteArray)(a:ByteArray):xs.contains a=true↔a∈xs:=by
 rw [List.contains_iff_exists_mem_beq]
 constructor
 · rintro ⟨b,hb,e⟩
   rw [(MapKept.bytes_beq _ _).1 e];exact hb
 · intro h;exact ⟨a,h,(MapKept.bytes_beq _ _).2 rfl⟩
theorem r_Keys:smockingref02_Keys.f=some kwL:=by kernel_rfl
theorem r_Signs:smockingref02_Signs.f=some sgL:=by kernel_rfl
theorem kwL_len:kwL.length=28:=by kernel_rfl
theorem sgL_len:sgL.length=47:=by kernel_rfl
theorem r_word_l0 (s:ByteArray)(i:Int)(hs:s.size≤1000000)(h0:0≤i):∀(d k:Nat) (x:Int),i≤x→x≤s.size→(s.size:Int)-x≤d→d+40<k→smockingref02_word.l0 k s i x=some (finKind kwL 1 (s.extract i.toNat (x+spanL wdU (sfx s x)).toNat),x+spanL wdU (sfx s x))
 |d,0,_,_,_,_,h=>by omega
 |d,k+1,x,hx0,hx1,hd_,hk=>by
  have j:x+spanL wdU (sfx s x)=x→smockingref02_word.j1 k s i x=some (finKind kwL 1 (s.extract i.toNat (x+spanL wdU (sfx s x)).toNat),x+spanL wdU (sfx s x)):=fun hz=>by
   obtain ⟨k,rfl⟩:∃m,k=m+1:=⟨k-1,by omega⟩
   rw [smockingref02_word.j1,r_Keys,hz]
   simp only [Option.bind_some]
   rw [if_pos h0,if_pos hx0,if_pos hx1]
   obtain ⟨r,hr,hc⟩:=r_has kwL (s.extract i.toNat x.toNat) (by rw [kwL_len];omega) k (by rw [kwL_len];omega)
   rw [hr]
   simp only [Option.bind_some]
   unfold finKind
   rcases hc with ⟨rfl,hc⟩|⟨hr0,hc⟩
   · rw [if_neg (by decide),if_neg (fun h=>hc ((contains_mem _ _).1 h.2))]
   · rw [if_pos hr0,if_pos ⟨rfl,(contains_mem _ _).2 hc⟩]
  rw [smockingref02_word.l0]
  by_cases hp:x<s.size
  · obtain ⟨d',rfl⟩:∃d',d=d'+1:=⟨d-1,by omega⟩
    obtain ⟨b,e1,e2,_⟩:=sfx_cons s x (by omega) hp
    have ih:=r_word_l0 s i hs h0 d' k (x+1) (by omega) (by omega) (by omega) (by omega)
    rw [if_pos hp,if_pos (by omega),e2,r_letter,r_digit,wr (by omega) (by omega),ih]
    simp only [Option.bind_some]
    have ew:wdU b=true→x+1+(spanL wdU (sfx s (x+1)):Int)=x+(spanL wdU (sfx s x):Int):=fun h=>by
     rw [e1,spanL,if_pos h];omega
    by_cases q1:isL (b.toNat:Int)=true
    · rw [if_pos q1,ew (by unfold wdU isLU;rw [q1];rfl)]
    · rw [if_neg q1]
      by_cases q2:isD (b.toNat:Int)=true
      · rw [if_pos q2,ew (by unfold wdU isDU;rw [q2];simp)]
      · rw [if_neg q2]
        exact j (by rw [e1,spanL,if_neg (by unfold wdU isLU isDU;simp [q1,q2])];simp)
  · rw [if_neg hp]
    exact j (by rw [sfx_nil s x (by omega)];simp [spanL])
theorem r_sign_l0 (s:ByteArray)(i:Int)(hs:s.size≤1000000)(h0:0≤i)(h1:i≤s.size)(sg:List ByteArray)(hl:sg.length≤1000000)(hsz:∀t∈sg,t.size≤1000000):∀(d k:Nat) (best:ByteArray) (j:Int),0≤j→(sg.length:Int)-j≤d→d<k→∃t,smockingref02_sign.l0 k s i best sg j=some t∧t.size=(sg.drop j.toNat).foldl (stepS (sfx s i)) best.size
 |d,0,_,_,_,_,h=>by omega
 |d,k+1,best,j,hj,hd_,hk=>by
  rw [smockingref02_sign.l0]
  by_cases hp:j<sg.length
  · obtain ⟨d',rfl⟩:∃d',d=d'+1:=⟨d-1,by omega⟩
    have hjl:j.toNat<sg.length:=by omega
    have hrd:rdOf ByteArray.empty sg j=sg[j.toNat]:=by
     show sg.getD j.toNat ByteArray.empty=_
     rw [List.getD_eq_getElem?_getD,List.getElem?_eq_getElem hjl];rfl
    have hm:=List.getElem_mem hjl
    rw [if_pos hp,if_pos hj,hrd,List.drop_eq_getElem_cons hjl,List.foldl_cons]
    generalize sg[j.toNat]=t at *
    have e:(j+1).toNat=j.toNat+1:=by omega
    have ih:=fun best=>r_sign_l0 s i hs h0 h1 sg hl hsz d' k best (j+1) (by omega) (by omega) (by omega)
    rw [e] at ih
    rw [r_begins s i t hs (hsz t hm) h0 h1,wr (by omega) (by omega)]
    simp only [Option.bind_some]
    unfold stepS at ih ⊢
    by_cases q1:best.size<t.size
    · rw [if_pos (by omega)]
      by_cases q2:t.data.toList.isPrefixOf (sfx s i)=true
      · rw [if_pos q2,if_pos ⟨q1,q2⟩];exact ih t
      · rw [if_neg q2,if_neg (fun h=>q2 h.2)];exact ih best
    · rw [if_neg (by omega),if_neg (fun h=>q1 h.1)];exact ih best
  · rw [if_neg hp,List.drop_eq_nil_of_le (by omega)]
    exact ⟨best,rfl,rfl⟩
theorem sgL_small:sgL.all (fun t=>decide (t.size≤3))=true:=by kernel_rfl
theorem r_sign (s:ByteArray)(i:Int)(hs:s.size≤1000000)(h0:0≤i)(h1:i≤s.size)(k:Nat)(hk:50<k):∃t,smockingref02_sign.f k s i=some t∧t.size=signL sgL (sfx s i):=by
 unfold smockingref02_sign.f
 rw [r_Signs]
 simp only [Option.bind_some]
 have:=r_sign_l0 s i hs h0 h1 sgL (by rw [sgL_len];omega) (fun t ht=>by
  have:=List.all_eq_true.1 sgL_small t ht
  have:=of_decide_eq_true this
  omega) 47 k ⟨#[]⟩ 0 (by omega) (by rw [sgL_len];omega) (by omega)
 exact this
theorem bt_get (s:ByteArray)(i:Int)(e:Nat)(h0:0≤i)(h:e<(sfx s i).length):bt s (i+e)=((sfx s i).getD e 0).toNat:=by
 have hl:=sfx_len s i
 obtain ⟨b,e1,e2,_⟩:=sfx_cons s (i+e) (by omega) (by omega)
 rw [e2,List.getD_eq_getElem?_getD]
 have:(sfx s i)[e]? =some b:=by
  have h1:=congrArg (·[0]?) ((sfx_drop s i e h0).symm.trans e1)
  simpa using h1
 rw [this];rfl
theorem r_line_l0 (s:ByteArray)(i:Int)(hs:s.size≤1000000)(h0:0≤i)(h35:(sfx s i)[0]? =some 35):∀(d k e:Nat),e≤(sfx s i).length→(sfx s i).length-e≤d→d<k→smockingref02_line.l0 k s i (i+(e:Int))=some (i+(e:Int)+((lineA (sfx s i) e).1:Int)-(if (lineA (sfx s i) e).2=true then 1 else 0))
 |d,0,_,_,_,h=>by omega
 |d,k+1,e,he,hd_,hk=>by
  have hl:=sfx_len s i
  rw [smockingref02_line.l0]
  by_cases hp:e<(sfx s i).length
  · obtain ⟨d',rfl⟩:∃d',d=d'+1:=⟨d-1,by omega⟩
    have ih:=r_line_l0 s i hs h0 h35 d' k (e+1) (by omega) (by omega) (by omega)
    obtain ⟨b,hb⟩:∃b,(sfx s i)[e]? =some b:=⟨_,List.getElem?_eq_getElem hp⟩
    have hbt:=bt_get s i e h0 hp
    have hbg:(sfx s i).getD e 0=b:=by rw [List.getD_eq_getElem?_getD,hb];rfl
    rw [hbg] at hbt
    have hst:=lineA_step (sfx s i) e b hb
    have y10:((b.toNat:Int)=10)↔b=10:=u8_eq b 10 (by decide)
    have w1:=wr (a:=i+(e:Int)+1) (by omega) (by omega)
    have w2:=wr (a:=i+(e:Int)-1) (by omega) (by omega)
    have w3:=wr (a:=i+(e:Int)-2) (by omega) (by omega)
    rw [show i+((e+1:Nat):Int)=i+(e:Int)+1 by omega] at ih
    rw [if_pos (by omega),if_pos (by omega),hbt,w1,w2,w3,ih]
    have fin:some (i+(e:Int)+1+((lineA (sfx s i) (e+1)).1:Int)-(if (lineA (sfx s i) (e+1)).2=true then 1 else 0))=some (i+(e:Int)+(((lineA (sfx s i) (e+1)).1+1:Nat):Int)-(if (lineA (sfx s i) (e+1)).2=true then 1 else 0)):=by
     rw [show i+(e:Int)+1+((lineA (sfx s i) (e+1)).1:Int)=i+(e:Int)+(((lineA (sfx s i) (e+1)).1+1:Nat):Int) by omega]
    by_cases q:b=10
    · rw [if_pos (y10.2 q)]
      have he1:1≤e:=by
       by_cases hz:e=0
       · rw [hz,h35] at hb
         rw [q] at hb
         cases hb
       · omega
      have hp1:bt s (i+(e:Int)-1)=(pr1 (sfx s i) e).toNat:=by
       have:=bt_get s i (e-1) h0 (by omega)
       rw [show i+((e-1:Nat):Int)=i+(e:Int)-1 by omega] at this
       rw [this]
       unfold pr1
       rw [if_neg (by omega)]
      have z92:∀p:UInt8,((p.toNat:Int)=92)↔p=92:=fun p=>u8_eq p 92 (by decide)
      have z13:∀p:UInt8,((p.toNat:Int)=13)↔p=13:=fun p=>u8_eq p 13 (by decide)
      rw [if_pos (by omega),if_pos (by omega),hp1]
      simp only [z92,z13]
      by_cases q1:pr1 (sfx s i) e=92
      · rw [if_neg (fun h=>h.2 (.inl q1))] at hst
        rw [if_pos q1,hst]
        exact fin
      · rw [if_neg q1]
        by_cases h2:2≤e
        · have hp2:bt s (i+(e:Int)-2)=(pr2 (sfx s i) e).toNat:=by
           have:=bt_get s i (e-2) h0 (by omega)
           rw [show i+((e-2:Nat):Int)=i+(e:Int)-2 by omega] at this
           rw [this]
           unfold pr2
           rw [if_neg (by omega)]
          rw [if_pos (by omega),hp2]
          simp only [z92]
          by_cases q2:pr1 (sfx s i) e=13
          · rw [if_pos q2,if_pos (by omega),if_pos (by omega)]
            by_cases q3:pr2 (sfx s i) e=92
            · rw [if_neg (fun h=>h.2 (.inr ⟨q2,q3⟩))] at hst
              rw [if_pos q3,hst]
              exact fin
            · rw [if_pos ⟨q,fun h=>h.elim q1 fun h=>q3 h.2⟩,q2] at hst
              rw [if_neg q3,if_pos (by omega),hst]
              simp
          · rw [if_pos ⟨q,fun h=>h.elim q1 fun h=>q2 h.1⟩] at hst
            have hf:(pr1 (sfx s i) e==13)=false:=by simpa using q2
            rw [hf] at hst
            rw [if_neg q2,hst]
            simp
        · have e1:e=1:=by omega
          have h35':pr1 (sfx s i) e=35:=by
           unfold pr1
           rw [if_neg (by omega),e1,List.getD_eq_getElem?_getD,show 1-1=0 by rfl,h35];rfl
          rw [if_pos ⟨q,fun h=>h.elim q1 fun h=>by rw [h35'] at h;exact absurd h.1 (by decide)⟩,h35'] at hst
          rw [if_neg (by omega),if_neg (by omega),hst]
          simp
    · rw [if_neg (fun h=>q (y10.1 h))]
      rw [if_neg (fun h=>q h.1)] at hst
      rw [hst]
      exact fin
  · rw [if_neg (by omega),lineA_end _ _ (by omega)]
    simp
theorem lineG_cr:∀(l:List UInt8) (p2 p1:UInt8),p1≠13→(lineG p2 p1 l).2=true→1≤(lineG p2 p1 l).1
 |[],p2,p1,_,h=>by simp [lineG] at h
 |b::l,p2,p1,h13,h=>by
  rw [lineG] at h ⊢
  split at h
  · simp [h13] at h
  · rename_i hq
    rw [if_neg hq]
    simp
theorem lineL_hash (t:List UInt8):0<lineL true (35::t)∧(lineL true (35::t):Int)=((lineA (35::t) 0).1:Int)-(if (lineA (35::t) 0).2=true then 1 else 0):=by
 have hst:=lineA_step (35::t) 0 35 rfl
 rw [if_neg (fun h=>absurd h.1 (by decide))] at hst
 have hA:lineA (35::t) (0+1)=lineG 0 35 t:=rfl
 have hcr:=lineG_cr t 0 35 (by decide)
 rw [hA] at hst
 have hLL:lineL true (35::t)=1+(lineG 0 35 t).1-(if (lineG 0 35 t).2=true then 1 else 0):=by
  rw [lineL];simp
 rw [hLL,hst]
 generalize lineG 0 35 t=r at *
 by_cases h:r.2=true
 · have:=hcr h
   rw [if_pos h,if_pos h];omega
 · rw [if_neg h,if_neg h];omega
theorem sign_heads:sgL.all (fun t=>match t.data.toList with|[]=>false|c::_=>c !=39&&c !=34)=true:=by kernel_rfl
theorem signL_zero (l:List UInt8)(h:∀t∈sgL,t.data.toList.isPrefixOf l=false):signL sgL l=0:=by
 unfold signL
 generalize sgL=sg at *
 induction sg with
 |nil=>rfl
 |cons t sg ih=>
  rw [List.foldl_cons]
  have:stepS l 0 t=0:=by
   unfold stepS
   rw [if_neg (fun hh=>by rw [h t (List.mem_cons_self ..)] at hh;exact absurd hh.2 (by decide))]
  rw [this]
  exact ih (fun t' ht'=>h t' (List.mem_cons_of_mem _ ht'))
theorem signL_quote (b:UInt8)(l:List UInt8)(hb:b=39∨b=34):signL sgL (b::l)=0:=
 signL_zero _ fun t ht=>by
  have:=List.all_eq_true.1 sign_heads t ht
  cases hq:t.data.toList with
  |nil=>rw [hq] at this;cases this
  |cons c u=>
   rw [hq] at this
   simp only [Bool.and_eq_true,bne_iff_ne,ne_eq] at this
   have hcb:(c==b)=false:=by
    rw [beq_eq_false_iff_ne]
    rcases hb with rfl|rfl
    · exact this.1
    · exact this.2
   simp [List.isPrefixOf,hcb]
theorem finKind_ne {kd:Int}(h:kd≠1)(t:ByteArray):finKind kwL kd t=kd:=by
 unfold finKind
 rw [if_neg (fun hh=>h hh.1)]
theorem fold_le (l:List UInt8)(B:Nat):∀(sg:List ByteArray) (n:Nat),n≤B→(∀t∈sg,t.size≤B)→sg.foldl (stepS l) n≤B
 |[],n,h,_=>h
 |t::sg,n,h,hs=>by
  rw [List.foldl_cons]
  refine fold_le l B sg _ ?_ (fun t' ht'=>hs t' (List.mem_cons_of_mem _ ht'))
  unfold stepS
  split
  · exact hs t (List.mem_cons_self ..)
  · exact h
theorem signL_le (l:List UInt8):signL sgL l≤3:=
 fold_le l 3 sgL 0 (Nat.zero_le _) (fun t ht=>of_decide_eq_true (List.all_eq_true.1 sgL_small t ht))
theorem r_token (s:ByteArray)(i:Int)(c:Bool)(hs:s.size≤1000000)(h0:0≤i)(h1:i<s.size)(k:Nat)(hk:2*s.size+100<k):
 smockingref02_token.f k s i c=some (finKind kwL (pickL sgL c (sfx s i)).1 (bA ((sfx s i).take (pickL sgL c (sfx s i)).2)),i+((pickL sgL c (sfx s i)).2:Int)):=by
 obtain ⟨b,e1,e2,e3⟩:=sfx_cons s i h0 h1
 obtain ⟨k,rfl⟩:∃m,k=m+3:=⟨k-3,by omega⟩
 have hl:=sfx_len s i
 have y35:((b.toNat:Int)=35)↔b=35:=u8_eq b 35 (by decide)
 have y46:((b.toNat:Int)=46)↔b=46:=u8_eq b 46 (by decide)
 have y39:((b.toNat:Int)=39)↔b=39:=u8_eq b 39 (by decide)
 have y34:((b.toNat:Int)=34)↔b=34:=u8_eq b 34 (by decide)
 have w1:=wr (a:=i+1) (by omega) (by omega)
 have z0:¬(0:Nat)<0:=Nat.lt_irrefl 0
 unfold smockingref02_token.f
 rw [if_pos h0,if_pos h1,e2]
 simp only [y35]
 have goal:∀(o:Option (Int × Int)) (kd:Int) (n:Nat),pickL sgL c (sfx s i)=(kd,n)→o=some (finKind kwL kd (bA ((sfx s i).take n)),i+(n:Int))→o=some (finKind kwL (pickL sgL c (sfx s i)).1 (bA ((sfx s i).take (pickL sgL c (sfx s i)).2)),i+((pickL sgL c (sfx s i)).2:Int)):=fun o kd n hP ho=>by rw [hP];exact ho
 have hother:∀q':UInt8,q'≠b→quotedL q' (sfx s i)=0:=fun q' hne=>by
  rw [e1,quotedL,if_neg (fun h=>hne h.symm)]
 have j0f:¬(c=true∧b=35)→smockingref02_token.j0 (k+3) s i b.toNat false=some (finKind kwL (pickL sgL c (sfx s i)).1 (bA ((sfx s i).take (pickL sgL c (sfx s i)).2)),i+((pickL sgL c (sfx s i)).2:Int)):=fun hnl=>by
  have hL:lineL c (sfx s i)=0:=by rw [e1,lineL,if_neg hnl]
  rw [smockingref02_token.j0,if_neg (by decide),r_letter,r_digit]
  simp only [Option.bind_some]
  by_cases q1:isL (b.toNat:Int)=true
  · have hn:nameL (sfx s i)=spanL wdU (sfx s i):=by
     rw [e1,nameL,if_pos (show isLU b=true from q1),spanL,if_pos (show wdU b=true by unfold wdU isLU;rw [q1];rfl)]
    have hn0:0<nameL (sfx s i):=by rw [e1,nameL,if_pos (show isLU b=true from q1)];omega
    refine goal _ 1 (nameL (sfx s i)) (by unfold pickL;rw [hL,if_neg z0,if_pos hn0]) ?_
    rw [if_pos q1]
    unfold smockingref02_word.f
    rw [r_word_l0 s i hs h0 s.size (k+2) i (by omega) (by omega) (by omega) (by omega)]
    simp only [Option.bind_some]
    rw [hn,extract_bA s i _ h0]
  · have hn:nameL (sfx s i)=0:=by rw [e1,nameL,if_neg (show ¬isLU b=true from q1)]
    rw [if_neg q1]
    have hbyte:smockingref02_byteAt.f s (i+1)=some (hd (sfx s (i+1))):=by rw [r_byteAt s (i+1) (by omega),nx_hd s _ (by omega)]
    have hnum:numberL (sfx s i)=if isDU b=true∨(b=46∧isD (hd (sfx s (i+1)))=true) then numL b (sfx s (i+1))+1 else 0:=by rw [e1,numberL]
    have j1:∀x31:Bool,x31=decide (isDU b=true∨(b=46∧isD (hd (sfx s (i+1)))=true))→smockingref02_token.j1 (k+1+1) s i b.toNat x31=some (finKind kwL (pickL sgL c (sfx s i)).1 (bA ((sfx s i).take (pickL sgL c (sfx s i)).2)),i+((pickL sgL c (sfx s i)).2:Int)):=fun x31 hx=>by
     rw [smockingref02_token.j1]
     by_cases q2:isDU b=true∨(b=46∧isD (hd (sfx s (i+1)))=true)
     · rw [if_pos q2] at hnum
       refine goal _ 3 (numberL (sfx s i)) (by unfold pickL;rw [hL,if_neg z0,hn,if_neg z0,if_pos (show 0<numberL (sfx s i) by omega)]) ?_
       rw [if_pos (by rw [hx];simpa using q2),r_number s i hs h0 h1 b e2 (k+1) (by omega)]
       simp only [Option.bind_some]
       rw [finKind_ne (by decide),hnum]
     · rw [if_neg q2] at hnum
       rw [if_neg (by rw [hx];simpa using q2)]
       have j2t:∀q:UInt8,b=q→(q=39∨q=34)→smockingref02_token.j2 (k+1) s i b.toNat true=some (finKind kwL (pickL sgL c (sfx s i)).1 (bA ((sfx s i).take (pickL sgL c (sfx s i)).2)),i+((pickL sgL c (sfx s i)).2:Int)):=fun q hbq hq=>by
        have hsg:signL sgL (sfx s i)=0:=by rw [e1];exact signL_quote b _ (by rw [hbq];exact hq)
        have hQ:=r_quoted s i q hs h0 h1 (by rw [e2,hbq]) (by rcases hq with rfl|rfl<;>decide) k (by omega)
        rw [smockingref02_token.j2,if_pos rfl,hQ,w1]
        simp only [Option.bind_some]
        rw [←hbq,←e1]
        simp only [y34]
        rw [←hbq] at hq
        rcases hq with hq|hq
        · have h34:=hother 34 (by rw [hq];decide)
          rw [hq]
          by_cases hz:0<quotedL 39 (sfx s i)
          · refine goal _ 4 (quotedL 39 (sfx s i)) (by unfold pickL;rw [hL,if_neg z0,hn,if_neg z0,hnum,if_neg z0,if_pos hz]) ?_
            rw [if_neg (by omega),if_neg (by decide),finKind_ne (by decide)]
          · refine goal _ 8 1 (by unfold pickL;rw [hL,if_neg z0,hn,if_neg z0,hnum,if_neg z0,if_neg hz,h34,if_neg z0,hsg,if_neg z0]) ?_
            rw [if_pos (by omega),finKind_ne (by decide)]
            rfl
        · have h39:=hother 39 (by rw [hq];decide)
          rw [hq]
          by_cases hz:0<quotedL 34 (sfx s i)
          · refine goal _ 5 (quotedL 34 (sfx s i)) (by unfold pickL;rw [hL,if_neg z0,hn,if_neg z0,hnum,if_neg z0,h39,if_neg z0,if_pos hz]) ?_
            rw [if_neg (by omega),if_pos rfl,finKind_ne (by decide)]
          · refine goal _ 8 1 (by unfold pickL;rw [hL,if_neg z0,hn,if_neg z0,hnum,if_neg z0,h39,if_neg z0,if_neg hz,hsg,if_neg z0]) ?_
            rw [if_pos (by omega),finKind_ne (by decide)]
            rfl
       simp only [y39]
       by_cases q39:b=39
       · rw [if_pos q39];exact j2t 39 q39 (.inl rfl)
       · rw [if_neg q39]
         by_cases q34:b=34
         · rw [show (((b.toNat:Int)==34))=true by simpa using y34.2 q34];exact j2t 34 q34 (.inr rfl)
         · rw [show (((b.toNat:Int)==34))=false by simpa using fun h=>q34 (y34.1 h)]
           have h39:=hother 39 (fun h=>q39 h.symm)
           have h34:=hother 34 (fun h=>q34 h.symm)
           rw [smockingref02_token.j2,if_neg (by decide)]
           obtain ⟨t,ht,hts⟩:=r_sign s i hs h0 (by omega) k (by omega)
           rw [ht]
           simp only [Option.bind_some]
           have hlen:t.toList.length=t.size:=by rw [ByteArray.toList_eq];rfl
           have hle:=signL_le (sfx s i)
           by_cases hz:0<signL sgL (sfx s i)
           · refine goal _ 6 (signL sgL (sfx s i)) (by unfold pickL;rw [hL,if_neg z0,hn,if_neg z0,hnum,if_neg z0,h39,if_neg z0,h34,if_neg z0,if_pos hz]) ?_
             rw [if_neg (fun h=>by rw [h] at hlen;simp at hlen;omega),wr (by omega) (by omega),finKind_ne (by decide),hts]
           · refine goal _ 8 1 (by unfold pickL;rw [hL,if_neg z0,hn,if_neg z0,hnum,if_neg z0,h39,if_neg z0,h34,if_neg z0,if_neg hz]) ?_
             rw [if_pos (List.eq_nil_of_length_eq_zero (by omega)),w1,finKind_ne (by decide)]
             rfl
    by_cases q2:isD (b.toNat:Int)=true
    · rw [if_pos q2];exact j1 _ (by simp [isDU,q2])
    · rw [if_neg q2]
      simp only [y46]
      by_cases q46:b=46
      · rw [if_pos q46,w1,hbyte]
        simp only [Option.bind_some,r_digit]
        exact j1 _ (by rw [Bool.eq_iff_iff,decide_eq_true_iff];unfold isDU;exact ⟨fun h=> .inr ⟨q46,h⟩,fun h=>h.elim (fun h=>absurd h q2) (fun h=>h.2)⟩)
      · rw [if_neg q46];exact j1 _ (by simp [isDU,q2,q46])
 by_cases q:b=35
 · rw [if_pos q]
   cases c with
   |false=>exact j0f (fun h=>absurd h.1 (by decide))
   |true=>
    obtain ⟨p1,p2⟩:=lineL_hash (sfx s (i+1))
    have hLi:=r_line_l0 s i hs h0 (by rw [e1,q];rfl) s.size (k+2) 0 (Nat.zero_le _) (by omega) (by omega)
    rw [smockingref02_token.j0,if_pos rfl]
    unfold smockingref02_line.f
    rw [show i+((0:Nat):Int)=i by omega] at hLi
    have hE:sfx s i=35::sfx s (i+1):=by rw [e1,q]
    rw [←hE] at p1 p2
    refine goal _ 7 (lineL true (sfx s i)) (by unfold pickL;rw [if_pos p1]) ?_
    rw [hLi,finKind_ne (by decide)]
    simp only [Option.bind_some,Option.some.injEq,Prod.mk.injEq,true_and]
    omega
 · rw [if_neg q]
   exact j0f (fun h=>q h.2)
def toS95 (t:Tk):S95:=⟨t.1,t.2.1,t.2.2.1,t.2.2.2⟩
def fixB (b:ByteArray):List Tk→List Tk
 |[]=>[]
 |t::r=>(t.1,b,t.2.2)::r
theorem befL_more:∀(f g:Nat) (l:List UInt8) (c:Bool),l.length≤f→l.length≤g→befL f l c=befL g l c
 |0,g,l,c,h,_=>by
  obtain rfl:l=[]:=List.eq_nil_of_length_eq_zero (by omega)
  cases g with
  |zero=>rfl
  |succ g=>rfl
 |f+1,0,l,c,_,h=>by
  obtain rfl:l=[]:=List.eq_nil_of_length_eq_zero (by omega)
  rfl
 |f+1,g+1,l,c,h1,h2=>by
  rw [befL,befL]
  cases h:pieceL l c with
  |none=>rfl
  |some r=>
   obtain ⟨p1,p2⟩:=pieceL_le h
   have:=befL_more f g (l.drop r.1) r.2 (by rw [List.length_drop];omega) (by rw [List.length_drop];omega)
   simp only [this]
theorem befL_none (N:Nat)(l:List UInt8)(c:Bool)(h:pieceL l c=none):befL N l c=(0,c):=by
 cases N with
 |zero=>rfl
 |succ N=>rw [befL,h]
theorem befL_some (N:Nat)(l:List UInt8)(c:Bool)(r:Nat × Bool)(h:pieceL l c=some r)(hN:l.length≤N):befL N l c=(r.1+(befL N (l.drop r.1) r.2).1,(befL N (l.drop r.1) r.2).2):=by
 obtain ⟨p1,p2⟩:=pieceL_le h
 obtain ⟨N,rfl⟩:∃m,N=m+1:=⟨N-1,by omega⟩
 rw [befL,h]
 simp only
 rw [befL_more N (N+1) (l.drop r.1) r.2 (by rw [List.length_drop];omega) (by rw [List.length_drop];omega)]
theorem piece_flag (b:UInt8)(l:List UInt8)(c:Bool)(r:Nat × Bool)(h:pieceL (b::l) c=some r):r.2=if r.1=1∧(b=11∨b=12∨b=13) then false else (c||((b::l).take r.1).contains 10):=by
 rw [pieceL] at h
 by_cases q1:b=10
 · rw [if_pos q1] at h
   obtain rfl:=Option.some.inj h
   rw [if_neg (by rw [q1];decide),q1];simp
 rw [if_neg q1] at h
 by_cases q2:b=32∨b=9
 · rw [if_pos q2] at h
   obtain rfl:=Option.some.inj h
   rw [if_neg (by rcases q2 with rfl|rfl<;>exact fun h=>absurd h.2 (by decide))]
   rcases q2 with rfl|rfl<;>simp
 rw [if_neg q2] at h
 by_cases q3:b=11∨b=12∨b=13
 · rw [if_pos q3] at h
   obtain rfl:=Option.some.inj h
   rw [if_pos ⟨rfl,q3⟩]
 rw [if_neg q3] at h
 have hnot:∀n,¬(n=1∧(b=11∨b=12∨b=13)):=fun n h=>q3 h.2
 rw [if_neg (hnot _)]
 by_cases q4:b=92∧hd l=10
 · rw [if_pos q4] at h
   obtain rfl:=Option.some.inj h
   obtain ⟨rfl,q5⟩:=q4
   cases l with
   |nil=>cases q5
   |cons a l=>
    have:a=10:=(u8_eq a 10 (by decide)).1 q5
    rw [this];simp
 rw [if_neg q4] at h
 by_cases q5:b=92∧hd l=13∧hd l.tail=10
 · rw [if_pos q5] at h
   obtain rfl:=Option.some.inj h
   obtain ⟨rfl,q6,q7⟩:=q5
   cases l with
   |nil=>cases q6
   |cons a l=>
    cases l with
    |nil=>cases q7
    |cons a2 l=>
     have:a2=10:=(u8_eq a2 10 (by decide)).1 q7
     rw [this];simp
 rw [if_neg q5] at h
 unfold comL at h
 split at h
 · obtain rfl:=Option.some.inj h
   simp only
   have:((b::l).take (spanL (fun x=>x !=10) (b::l))).contains 10=false:=by
    rw [Bool.eq_false_iff]
    intro hc
    rw [List.contains_iff_mem] at hc
    obtain ⟨j,hj⟩:=List.getElem?_of_mem hc
    rw [List.getElem?_take] at hj
    split at hj
    · rename_i hlt
      have:=span_at (fun x=>x !=10) (b::l) j 10 hlt hj
      simp at this
    · cases hj
   rw [this];simp
 · split at h
   · obtain rfl:=Option.some.inj h
     rfl
   · cases h
theorem tokL_skip (kw sg:List ByteArray)(N:Nat)(at0:Int)(l:List UInt8)(c:Bool)(r:Nat × Bool)(h:pieceL l c=some r)(hN:l.length≤N):
 (tokL kw sg N at0 l c).1.1=(tokL kw sg N (at0+r.1) (l.drop r.1) r.2).1.1∧(tokL kw sg N at0 l c).1.2.2=(tokL kw sg N (at0+r.1) (l.drop r.1) r.2).1.2.2∧(tokL kw sg N at0 l c).2.1=r.1+(tokL kw sg N (at0+r.1) (l.drop r.1) r.2).2.1∧(tokL kw sg N at0 l c).2.2=(tokL kw sg N (at0+r.1) (l.drop r.1) r.2).2.2:=by
 have hb:=befL_some N l c r h hN
 unfold tokL
 rw [hb]
 simp only
 generalize befL N (l.drop r.1) r.2=r'
 rw [←List.drop_drop]
 have ea:at0+((r.1+r'.1:Nat):Int)=at0+(r.1:Int)+(r'.1:Int):=by omega
 by_cases q:(l.drop r.1).drop r'.1=[]
 · rw [if_pos q,if_pos q]
   exact ⟨rfl,by simp only [ea],rfl,rfl⟩
 · rw [if_neg q,if_neg q]
   exact ⟨rfl,by simp only [ea],by simp only;omega,rfl⟩
theorem toksL_skip (kw sg:List ByteArray)(N f:Nat)(at0:Int)(l:List UInt8)(c:Bool)(r:Nat × Bool)(h:pieceL l c=some r)(hN:l.length≤N)(b:ByteArray):
 fixB b (toksL kw sg N f at0 l c)=fixB b (toksL kw sg N f (at0+r.1) (l.drop r.1) r.2):=by
 cases f with
 |zero=>rfl
 |succ f=>
  obtain ⟨h1,h2,h3,h4⟩:=tokL_skip kw sg N at0 l c r h hN
  rw [toksL,toksL,h1,h3,h4]
  rw [←List.drop_drop,show at0+((r.1+(tokL kw sg N (at0+↑r.1) (l.drop r.1) r.2).2.1:Nat):Int)=at0+(r.1:Int)+((tokL kw sg N (at0+↑r.1) (l.drop r.1) r.2).2.1:Int) by omega]
  split
  · show [_]=[_]
    rw [h1,h2]
  · show _::_=_::_
    rw [h1,h2]
theorem fixB_id (kw sg:List ByteArray)(N f:Nat)(at0:Int)(l:List UInt8)(c:Bool):fixB (bA (l.take (befL N l c).1)) (toksL kw sg N f at0 l c)=toksL kw sg N f at0 l c:=by
 cases f with
 |zero=>rfl
 |succ f=>
  have:(tokL kw sg N at0 l c).1.2.1=bA (l.take (befL N l c).1):=by
   unfold tokL
   simp only
   split<;>rfl
  rw [toksL,←this]
  split<;>rfl
theorem r_All_l1 (s:ByteArray)(out:List S95)(fr at0 x7:Int)(hs:s.size≤1000000):∀(m k:Nat) (x:Int) (c:Bool),0≤x→x+m≤s.size→x+m≤x7→smockingref02_All.l1 (k+m) s out fr at0 c x7 x=smockingref02_All.l1 k s out fr at0 (c||((sfx s x).take m).contains 10) x7 (x+m)
 |0,k,x,c,_,_,_=>by simp
 |m+1,k,x,c,h0,h1,h2=>by
  obtain ⟨b,e1,e2,_⟩:=sfx_cons s x h0 (by omega)
  have ih:=fun c=>r_All_l1 s out fr at0 x7 hs m k (x+1) c (by omega) (by omega) (by omega)
  have y10:((b.toNat:Int)=10)↔b=10:=u8_eq b 10 (by decide)
  rw [show k+(m+1)=(k+m)+1 by omega,smockingref02_All.l1,if_pos (by omega),if_pos h0,if_pos (by omega),e2,wr (by omega) (by omega),e1,ih,ih]
  rw [show x+1+(m:Int)=x+((m+1:Nat):Int) by omega,List.take_succ_cons]
  by_cases q:b=10
  · rw [if_pos (y10.2 q),q]
    simp
  · rw [if_neg (fun h=>q (y10.1 h))]
    have:(b::(sfx s (x+1)).take m).contains 10=((sfx s (x+1)).take m).contains 10:=by
     rw [List.contains_cons]
     have:((10:UInt8)==b)=false:=by rw [beq_eq_false_iff_ne];exact fun h=>q h.symm
     rw [this];simp
    rw [this]
theorem pick_bounds (s:ByteArray)(at0:Int)(c:Bool)(hs:s.size≤1000000)(h0:0≤at0)(h1:at0<s.size):1≤(pickL sgL c (sfx s at0)).2∧at0+((pickL sgL c (sfx s at0)).2:Int)≤s.size∧∀t,finKind kwL (pickL sgL c (sfx s at0)).1 t≠0:=by
 have hl:sgL.length≤1000000:=by rw [sgL_len];omega
 obtain ⟨n,kd,h,p1,p2,p3⟩:=tries_tot s at0 sgL c hs h0 h1 hl (K0 s sgL) (by unfold K0;omega) (by unfold K0;omega) 6 0
 have h':=tries_eq s at0 sgL c hs h0 (by omega) hl (K0 s sgL) (by unfold K0;omega) (by unfold K0;omega) .nilIface
 rw [h .nilIface] at h'
 simp only [Option.some.injEq,Prod.mk.injEq] at h'
 obtain ⟨e1,e2,_⟩:=h'
 refine ⟨by omega,by omega,fun t=> ?_⟩
 rw [←e2]
 unfold finKind
 split
 · decide
 · omega
theorem r_All_l0 (s:ByteArray)(hs:s.size≤1000000):∀(d k f:Nat) (at0 fr:Int) (c:Bool) (out:List S95),0≤fr→fr≤at0→at0≤s.size→(s.size:Int)-at0≤d→(s.size:Int)-at0<f→4*d+2*s.size+200<k→out.length≤at0→
 smockingref02_All.l0 k s out fr at0 c=some (out++(fixB (s.extract fr.toNat (at0+(befL s.size (sfx s at0) c).1).toNat) (toksL kwL sgL s.size f at0 (sfx s at0) c)).map toS95)
 |d,0,_,_,_,_,_,_,_,_,_,_,h,_=>by omega
 |d,k+1,f,at0,fr,c,out,hf0,hfa,ha1,hd_,hff,hk,hout=>by
  have h0:0≤at0:=by omega
  have hl:=sfx_len s at0
  rw [smockingref02_All.l0,r_piece s at0 c hs h0 ha1 k (by omega)]
  simp only [Option.bind_some]
  obtain ⟨f,rfl⟩:∃m,f=m+1:=⟨f-1,by omega⟩
  cases hP:pieceL (sfx s at0) c with
  |none=>
   have hb:=befL_none s.size (sfx s at0) c hP
   simp only
   rw [if_neg (by omega),hb]
   by_cases he:at0=s.size
   · rw [if_pos he,if_pos hf0,if_pos (by omega),if_pos (by omega)]
     have ht:tokL kwL sgL s.size at0 (sfx s at0) c=((0,bA ((sfx s at0).take 0),⟨#[]⟩,at0+((0:Nat):Int)),0,c):=by
      unfold tokL
      rw [hb]
      simp only
      rw [if_pos (by rw [List.drop_zero];exact sfx_nil s at0 (by omega))]
     rw [toksL,ht,if_pos rfl]
     show some (out++[_])=some (out++[toS95 (0,_,_)])
     rw [show (at0+(((0:Nat),c).1:Int)).toNat=s.size by show (at0+((0:Nat):Int)).toNat=s.size;omega,show at0+((0:Nat):Int)=at0 by omega]
     rfl
   · rw [if_neg he]
     have hlt:at0<s.size:=by omega
     obtain ⟨p1,p2,p3⟩:=pick_bounds s at0 c hs h0 hlt
     rw [r_token s at0 c hs h0 hlt k (by omega)]
     simp only [Option.bind_some]
     have ht:tokL kwL sgL s.size at0 (sfx s at0) c=((finKind kwL (pickL sgL c (sfx s at0)).1 (bA ((sfx s at0).take (pickL sgL c (sfx s at0)).2)),bA ((sfx s at0).take 0),bA ((sfx s at0).take (pickL sgL c (sfx s at0)).2),at0+((0:Nat):Int)),0+(pickL sgL c (sfx s at0)).2,false):=by
      unfold tokL
      rw [hb]
      simp only
      rw [List.drop_zero,if_neg (by
       intro h
       rw [h] at hl
       simp only [List.length_nil] at hl
       omega)]
     rw [toksL,ht,if_neg (p3 _)]
     simp only
     generalize hn:(pickL sgL c (sfx s at0)).2=n at *
     generalize (pickL sgL c (sfx s at0)).1=kd at *
     rw [if_pos hf0,if_pos hfa,if_pos ha1,if_pos h0,if_pos (by omega),if_pos p2,if_pos (by omega)]
     obtain ⟨d,rfl⟩:∃m,d=m+1:=⟨d-1,by omega⟩
     rw [r_All_l0 s hs d k f (at0+n) (at0+n) false _ (by omega) (Int.le_refl _) p2 (by omega) (by omega) (by omega) (by rw [List.length_append,List.length_singleton];omega)]
     rw [extract_bA s (at0+n) _ (by omega),fixB_id,extract_bA s at0 n h0,Nat.zero_add,sfx_drop s at0 n h0]
     rw [List.append_assoc]
     rw [show at0+((0:Nat):Int)=at0 by omega]
     rfl
  |some r=>
   obtain ⟨q1,q2⟩:=pieceL_le hP
   have hlt:at0<s.size:=by omega
   simp only
   rw [if_pos (by omega)]
   have hb:=befL_some s.size (sfx s at0) c r hP (by omega)
   obtain ⟨k,rfl⟩:∃m,k=m+r.1:=⟨k-r.1,by omega⟩
   rw [r_All_l1 s out fr at0 (at0+r.1) hs r.1 k at0 c h0 (by omega) (Int.le_refl _)]
   obtain ⟨b,e1,e2,_⟩:=sfx_cons s at0 h0 hlt
   have hfl:=piece_flag b (sfx s (at0+1)) c r (by rw [←e1];exact hP)
   rw [←e1] at hfl
   obtain ⟨d,rfl⟩:∃m,d=m+1:=⟨d-1,by omega⟩
   obtain ⟨k,rfl⟩:∃m,k=m+2:=⟨k-2,by omega⟩
   have ih:=r_All_l0 s hs (d+1-r.1) k (f+1) (at0+r.1) fr r.2 out hf0 (by omega) (by omega) (by omega) (by omega) (by omega) (by omega)
   have hfix:=toksL_skip kwL sgL s.size (f+1) at0 (sfx s at0) c r hP (by omega) (s.extract fr.toNat (at0+(befL s.size (sfx s at0) c).1).toNat)
   rw [hfix,hb]
   simp only
   rw [sfx_drop s at0 r.1 h0] at ih
   rw [show at0+((r.1+(befL s.size ((sfx s at0).drop r.1) r.2).1:Nat):Int)=at0+(r.1:Int)+((befL s.size ((sfx s at0).drop r.1) r.2).1:Int) by omega]
   rw [←ih,smockingref02_All.l1,if_neg (by omega),wr (a:=at0+1) (by omega) (by omega),e2]
   have y11:(b=11∨b=12∨b=13)↔((b.toNat:Int)≥11∧(b.toNat:Int)≤13):=by
    have z11:((b.toNat:Int)=11)↔b=11:=u8_eq b 11 (by decide)
    have z12:((b.toNat:Int)=12)↔b=12:=u8_eq b 12 (by decide)
    have z13:((b.toNat:Int)=13)↔b=13:=u8_eq b 13 (by decide)
    rw [←z11,←z12,←z13]
    omega
   simp only [y11] at hfl
   by_cases g1:r.1=1
   · rw [if_pos (by omega),if_pos h0,if_pos hlt]
     by_cases g2:(b.toNat:Int)≥11
     · rw [if_pos g2,smockingref02_All.j2]
       by_cases g3:(b.toNat:Int)≤13
       · rw [if_pos ⟨g1,g2,g3⟩] at hfl
         rw [if_pos (by simpa using g3),hfl]
       · rw [if_neg (fun h=>g3 h.2.2)] at hfl
         rw [if_neg (by simpa using g3),hfl]
     · rw [if_neg (fun h=>g2 h.2.1)] at hfl
       rw [if_neg g2,smockingref02_All.j2,if_neg (by decide),hfl]
   · rw [if_neg (fun h=>g1 h.1)] at hfl
     rw [if_neg (by omega),smockingref02_All.j2,if_neg (by decide),hfl]
theorem r_Scan (s:ByteArray)(hs:s.size≤1000000)(k:Nat)(hk:6*s.size+300<k):smockingref02_Scan.f k s=some ((scanR s).1.map toS95,(scanR s).2):=by
 have hl:=sfx_len s 0
 have hsg:sgL.length≤1000000:=by rw [sgL_len];omega
 unfold smockingref02_Scan.f scanR
 by_cases h:s.size>200000
 · rw [if_pos (by omega),if_pos h];rfl
 · rw [if_neg (by omega),if_neg h]
   unfold smockingref02_All.f
   rw [r_All_l0 s hs s.size k (s.size+1) 0 0 true [] (Int.le_refl _) (Int.le_refl _) (by omega) (by omega) (by omega) (by omega) (by simp)]
   rw [extract_bA s 0 _ (Int.le_refl _),fixB_id,←toksD_eq kwL sgL s hs hsg (s.size+1) 0 true (Int.le_refl _) (by omega)]
   simp only [Option.bind_some,List.nil_append,List.length_map]
   by_cases h2:(toksD kwL sgL s (s.size+1) 0 true).length>40000
   · rw [if_pos (by omega),if_pos h2];rfl
   · rw [if_neg (by omega),if_neg h2]
end Go.Proofs.YtolaiebjmhieiaaGreatDoor.OScan
end
section
namespace Go.Proofs.YtolaiebjmhieiaaGreatDoor.OScan
open Go.RowKit YtolaiebjmhieiaaGreatDoorW.PrintWords YtolaiebjmhieiaaGreatDoorW.PrintLast YtolaiebjmhieiaaGreatDoorW.PrintMore
theorem finKind_pos (kw:List ByteArray)(kd:Int)(t:ByteArray)(h:1≤kd):1≤finKind kw kd t:=by unfold finKind;split<;>omega
theorem tokD_text (kw sg:List ByteArray)(s:ByteArray)(at0:Int)(c:Bool)(hs:s.size≤1000000)(h0:0≤at0)(h1:at0≤s.size)(hl:sg.length≤1000000):
 at0≤(tokD kw sg s at0 c).1.2.2.2∧(tokD kw sg s at0 c).1.2.2.2+(tokD kw sg s at0 c).1.2.2.1.size≤s.size∧((tokD kw sg s at0 c).1.1≠0→1≤(tokD kw sg s at0 c).1.2.2.1.size):=by
 obtain ⟨b,at1,c1,hb,hb0,hb1,hbs⟩:=before_tot s at0 sg c hs h0 h1 (K0 s sg) (by unfold K0;omega)
 have hb:∀v,lex_scanner_before.f (K0 s sg) s at0 v sg c=some (b,s,at1,v,c1):=hb
 by_cases he:at1=(s.size:Int)
 · have hd:tokD kw sg s at0 c=((0,b,⟨#[]⟩,at1),at1,c1):=by unfold tokD;rw [hb .nilIface];simp only;rw [if_pos he]
   rw [hd]
   have h2:(⟨#[]⟩:ByteArray).size=0:=rfl
   exact ⟨hb0,by simp only [h2];omega,by simp⟩
 · obtain ⟨n,kd,ht,hn,hn1,hk1⟩:=tries_tot s at1 sg c1 hs (by omega) (by omega) hl (K0 s sg) (by unfold K0;omega) (by unfold K0;omega) 6 0
   have hd:tokD kw sg s at0 c=((finKind kw kd (s.extract at1.toNat (at1+n).toNat),b,s.extract at1.toNat (at1+n).toNat,at1),at1+n,false):=by
    unfold tokD;rw [hb .nilIface];simp only;rw [if_neg he,ht .nilIface]
   rw [hd]
   have h2:(s.extract at1.toNat (at1+n).toNat).size=n.toNat:=by rw [ByteArray.size_extract];omega
   exact ⟨hb0,by simp only [h2];omega,fun _=>by simp only [h2];omega⟩
theorem toksD_at (s:ByteArray)(hs:s.size≤1000000):∀(f:Nat) (at0:Int) (c:Bool),0≤at0→at0≤s.size→∀(j:Nat) (t:Tk),(toksD kwL sgL s f at0 c)[j]? =some t→at0+j≤t.2.2.2∧t.2.2.2+t.2.2.1.size≤s.size∧(t.1≠0→1≤t.2.2.1.size)
 |0,at0,c,_,_,j,t,h=>by simp [toksD] at h
 |f+1,at0,c,h0,h1,j,t,h=>by
  have hl:sgL.length≤1000000:=by rw [sg_len];decide
  obtain ⟨g1,g2,g3⟩:=tokD_text kwL sgL s at0 c hs h0 h1 hl
  obtain ⟨p1,p2,p3,_⟩:=tokD_place kwL sgL s at0 c hs h0 h1 hl
  simp only [toksD] at h
  split at h
  · cases j with
    |zero=>
     obtain rfl:(tokD kwL sgL s at0 c).1=t:=by simpa using h
     exact ⟨by simpa using g1,g2,g3⟩
    |succ j=>simp at h
  · rename_i hk
    cases j with
    |zero=>
     obtain rfl:(tokD kwL sgL s at0 c).1=t:=by simpa using h
     exact ⟨by simpa using g1,g2,g3⟩
    |succ j=>
     rw [List.getElem?_cons_succ] at h
     have:=p3 hk
     obtain ⟨q1,q2,q3⟩:=toksD_at s hs f _ _ (by omega) p1 j t h
     exact ⟨by omega,q2,q3⟩
theorem toksD_len (s:ByteArray)(hs:s.size≤1000000)(f:Nat)(at0:Int)(c:Bool)(h0:0≤at0)(h1:at0≤s.size):((toksD kwL sgL s f at0 c).length:Int)≤s.size-at0+1:=by
 rcases Nat.eq_zero_or_pos (toksD kwL sgL s f at0 c).length with h|h
 · omega
 · have hj:(toksD kwL sgL s f at0 c).length-1<(toksD kwL sgL s f at0 c).length:=by omega
   obtain ⟨q1,q2,_⟩:=toksD_at s hs f at0 c h0 h1 _ _ (List.getElem?_eq_getElem hj)
   omega
theorem toksD_pos (s:ByteArray)(f:Nat)(at0:Int)(c:Bool):1≤(toksD kwL sgL s (f+1) at0 c).length:=by
 simp only [toksD];split<;>simp
theorem toksD_two (s:ByteArray)(f:Nat)(at0:Int)(c:Bool)(h:(tokD kwL sgL s at0 c).1.1≠0):2≤(toksD kwL sgL s (f+2) at0 c).length:=by
 have hd:toksD kwL sgL s (f+2) at0 c=(tokD kwL sgL s at0 c).1::toksD kwL sgL s (f+1) (tokD kwL sgL s at0 c).2.1 (tokD kwL sgL s at0 c).2.2:=by
  rw [show f+2=(f+1)+1 from rfl,toksD,if_neg h]
 rw [hd,List.length_cons]
 have:=toksD_pos s f (tokD kwL sgL s at0 c).2.1 (tokD kwL sgL s at0 c).2.2
 omega
theorem before_paren (s:ByteArray)(l:List UInt8)(v:Value)(sg:List ByteArray)(c:Bool)(hl:s.data.toList=40::l)(hs:s.size≤1000000)(k:Nat):
 lex_scanner_before.f (k+5) s 0 v sg c=some (s.extract 0 0,s,0,v,c):=by
 have hsz:s.data.toList.length=s.size:=by rw [←Lib.size_eq]
 have hpos:0<s.size:=by rw [←hsz,hl];simp
 have hb:bt s 0=40:=by
  unfold bt
  rw [dif_pos (by simpa using hpos)]
  have h1:s[(0:Int).toNat]'(by simpa using hpos)=40:=by
   have h2:s.data.toList[0]? =some 40:=by rw [hl];rfl
   have h3:s.data[0]? =some 40:=by simpa using h2
   have h4:=Array.getElem?_eq_some_iff.1 h3
   obtain ⟨h5,h6⟩:=h4
   exact h6
  rw [h1];rfl
 have hR:(s.extract (0:Int).toNat s.size).data.toList=40::l:=by
  rw [←hl]
  have:s.extract (0:Int).toNat s.size=s:=ByteArray.extract_zero_size
  rw [this]
 have hc:lex_scanner_comment.f s 0 v sg c=some (false,s,0,v,c):=by
  have hr:=rest_tot s 0 sg c hs (by omega) (by omega) v
  simp only [lex_scanner_comment.f,hr,Option.bind_some]
  generalize s.extract (0:Int).toNat s.size=R at hR
  obtain ⟨t1,ht1,_⟩:=prefix_tot R ⟨#[47,47]⟩
  obtain ⟨t2,ht2,_⟩:=prefix_tot R ⟨#[47,42]⟩
  cases t1 with
  |true=>
   obtain ⟨l',hl'⟩:=prefix_two R 47 47 ht1
   rw [hR] at hl'
   exact absurd hl' (by simp)
  |false=>
   cases t2 with
   |true=>
    obtain ⟨l',hl'⟩:=prefix_two R 47 42 ht2
    rw [hR] at hl'
    exact absurd hl' (by simp)
   |false=>simp only [ht1,ht2,Option.bind_some,Bool.false_eq_true,if_false]
 unfold lex_scanner_before.f
 rw [lex_scanner_before.l0,if_pos (by omega),if_pos (by omega),if_neg (by rw [hb];decide),if_neg (by rw [hb];decide),hb]
 rw [show ((40:Int)==9)=false from by decide]
 rw [lex_scanner_before.j1,if_neg (by decide),if_neg (by decide),if_neg (by decide)]
 rw [show ((40:Int)==13)=false from by decide]
 rw [lex_scanner_before.j2,if_neg (by decide),if_neg (by decide)]
 rw [lex_scanner_before.j3,if_neg (by decide),if_neg (by decide)]
 rw [lex_scanner_before.j4,if_neg (by decide),hc]
 simp only [Option.bind_some,Bool.false_eq_true,if_false]
 rw [if_pos (by omega),if_pos (by omega),if_pos (by omega)]
 rfl
theorem first_paren (s:ByteArray)(l:List UInt8)(hl:s.data.toList=40::l)(hs:s.size≤1000000):(tokD kwL sgL s 0 true).1.1≠0:=by
 have hsz:s.data.toList.length=s.size:=by rw [←Lib.size_eq]
 have hpos:0<s.size:=by rw [←hsz,hl];simp
 have hsl:sgL.length≤1000000:=by rw [sg_len];decide
 have hb:∀v,lex_scanner_before.f (K0 s sgL) s 0 v sgL true=some (s.extract 0 0,s,0,v,true):=fun v=>by
  have:=before_paren s l v sgL true hl hs (5*s.size+sgL.length+95)
  exact this
 obtain ⟨n,kd,ht,hn,hn1,hk1⟩:=tries_tot s 0 sgL true hs (by omega) (by omega) hsl (K0 s sgL) (by unfold K0;omega) (by unfold K0;omega) 6 0
 have hd:tokD kwL sgL s 0 true=((finKind kwL kd (s.extract (0:Int).toNat (0+n).toNat),s.extract 0 0,s.extract (0:Int).toNat (0+n).toNat,0),0+n,false):=by
  unfold tokD;rw [hb .nilIface];simp only;rw [if_neg (by omega),ht .nilIface]
 rw [hd]
 have:=finKind_pos kwL kd (s.extract (0:Int).toNat (0+n).toNat) hk1
 simp only;omega
theorem scan_paren (s:ByteArray)(hs:s.size≤190000)(he:(scanR (⟨#[40]⟩++s)).2=0):2≤(scanR (⟨#[40]⟩++s)).1.length∧(scanR (⟨#[40]⟩++s)).1.length≤40000∧((scanR (⟨#[40]⟩++s)).1.length≤s.size+2)∧
 ∀(j:Nat) (t:Tk),(scanR (⟨#[40]⟩++s)).1[j]? =some t→(j:Int)≤t.2.2.2∧t.2.2.2+t.2.2.1.size≤s.size+1∧(t.1≠0→1≤t.2.2.1.size):=by
 have hsz:(⟨#[40]⟩++s:ByteArray).size=s.size+1:=by rw [ByteArray.size_append];have:(⟨#[40]⟩:ByteArray).size=1:=rfl;omega
 have hl:(⟨#[40]⟩++s:ByteArray).data.toList=40::s.data.toList:=by simp
 generalize (⟨#[40]⟩++s:ByteArray)=S at *
 have hr:scanR S=(toksD kwL sgL S (S.size+1) 0 true,0)∧(toksD kwL sgL S (S.size+1) 0 true).length≤40000:=by
  unfold scanR at he ⊢
  rw [if_neg (by omega)] at he ⊢
  by_cases h:(toksD kwL sgL S (S.size+1) 0 true).length>40000
  · rw [if_pos h] at he;exact absurd he (by decide)
  · rw [if_neg h];exact ⟨rfl,by omega⟩
 rw [hr.1]
 refine ⟨?_,hr.2,?_,fun j t ht=> ?_⟩
 · rw [hsz];exact toksD_two S s.size 0 true (first_paren S _ hl (by omega))
 · have:=toksD_len S (by omega) (S.size+1) 0 true (by omega) (by omega)
   simp only;omega
 · obtain ⟨q1,q2,q3⟩:=toksD_at S (by omega) (S.size+1) 0 true (by omega) (by omega) j t ht
   exact ⟨by omega,by omega,q3⟩
def FirstIn (s:ByteArray)(out:List Tk):Prop:=∀t:Tk,out[0]? =some t→t.2.2.1=⟨#[35]⟩∨((0:Int)≤t.2.2.2∧t.2.2.2+(t.2.2.1.size:Int)≤(s.size:Int))
theorem wordsGo_tot (rec_:ByteArray→Int→Option (List Tk))(s:ByteArray)(add:Int)(hs:s.size≤190000)
 (hrec:∀(a:Int) (add':Int),1≤a→a≤s.size→∃r,rec_ (s.extract a.toNat s.size) add'=some r∧(r.length:Int)≤s.size-a+1):
 ∀(zs out:List Tk) (i:Nat),out.length=i→i+zs.length≤s.size→(∀(j:Nat) (t:Tk),zs[j]? =some t→(i+j+1:Int)≤t.2.2.2∧t.2.2.2+t.2.2.1.size≤s.size+1∧(t.1≠0→1≤t.2.2.1.size))→
  ∃r,wordsGo rec_ s add zs out=some r∧r.length≤s.size+1∧(add=0→FirstIn s out→FirstIn s r)
 |[],out,i,hi,hl,_=>⟨out,rfl,by omega,fun _ h=>h⟩
 |t::zs,out,i,hi,hl,h=>by
  obtain ⟨q1,q2,q3⟩:=h 0 t rfl
  simp only [List.length_cons] at hl
  have hw:wFrom t.2.2.2=t.2.2.2:=by unfold wFrom;rw [wr (a:=t.2.2.2-1) (by omega) (by omega)];exact wr (by omega) (by omega) |>.trans (by omega)
  by_cases hk:t.1=7
  · have h1:=q3 (by omega)
    obtain ⟨r,hr,hrl⟩:=hrec t.2.2.2 (wrap64 (add+wFrom t.2.2.2)) (by omega) (by omega)
    refine ⟨(out++[(6,t.2.1,⟨#[35]⟩,wPlace add t.2.2.2)])++r,?_,?_,fun _ hf=> ?_⟩
    · simp only [wordsGo]
      rw [if_pos hk,hw,if_pos ⟨by omega,by omega⟩]
      rw [hw] at hr
      rw [hr]
      simp only [Option.bind_some]
      rw [if_pos (by omega)]
    · rw [List.length_append,List.length_append,List.length_singleton];omega
    · intro u hu
      rw [List.append_assoc] at hu
      cases out with
      |nil=>
       simp at hu
       subst hu
       exact .inl rfl
      |cons o out=>exact hf u (by simpa using hu)
  · obtain ⟨r,hr,hrl,hf⟩:=wordsGo_tot rec_ s add hs hrec zs (out++[(t.1,t.2.1,t.2.2.1,wPlace add t.2.2.2)]) (i+1) (by simp [hi]) (by omega) (fun j u hu=>by
     have:=h (j+1) u (by simpa using hu)
     push_cast at this ⊢
     exact ⟨by omega,this.2⟩)
    refine ⟨r,?_,hrl,fun ha hf0=>hf ha ?_⟩
    · simp only [wordsGo];rw [if_neg hk];exact hr
    · intro u hu
      cases out with
      |nil=>
       simp at hu
       subst hu
       have hp:wPlace add t.2.2.2=t.2.2.2-1:=by
        unfold wPlace;rw [ha,wr (a:=t.2.2.2-1) (by omega) (by omega)];exact wr (by omega) (by omega) |>.trans (by omega)
       exact .inr ⟨by simp only [hp];omega,by simp only [hp];omega⟩
      |cons o out=>exact hf0 u (by simpa using hu)
theorem words_tot:∀(k:Nat) (s:ByteArray) (add:Int),s.size≤190000→s.size+1≤k→∃r,wordsF k s add=some r∧r.length≤s.size+1∧(add=0→FirstIn s r)
 |0,s,add,_,hk=>by omega
 |k+1,s,add,hs,hk=>by
  simp only [wordsF]
  by_cases he:(scanR (⟨#[40]⟩++s)).2=0
  · obtain ⟨h1,h2,h3,h4⟩:=scan_paren s hs he
    rw [if_pos he,if_pos ⟨h1,by omega⟩]
    generalize (scanR (⟨#[40]⟩++s)).1=ys at *
    obtain ⟨r,hr,hrl,hf⟩:=wordsGo_tot (wordsF k) s add hs (fun a add' ha1 ha2=>by
     have hsz:(s.extract a.toNat s.size).size=s.size-a.toNat:=by rw [ByteArray.size_extract];omega
     obtain ⟨r,hr,hrl,_⟩:=words_tot k (s.extract a.toNat s.size) add' (by omega) (by omega)
     exact ⟨r,hr,by omega⟩) ((ys.take (ys.length-1)).drop 1) [] 0 rfl (by rw [List.length_drop,List.length_take];omega) (fun j t ht=>by
     rw [List.getElem?_drop,List.getElem?_take] at ht
     split at ht
     · have:=h4 _ t ht
       push_cast at this
       exact ⟨by omega,this.2⟩
     · cases ht)
    exact ⟨r,hr,hrl,fun ha=>hf ha (fun t ht=>by simp at ht)⟩
  · rw [if_neg he]
    exact ⟨[],rfl,by simp,fun _ t ht=>by simp at ht⟩
theorem sign_open (l:List UInt8):signL sgL (40::l)=1:=by kernel_rfl
theorem sign_semi (l:List UInt8):signL sgL (59::l)=1:=by kernel_rfl
theorem toks_head (a:UInt8)(ha:a=40∨a=59)(s:ByteArray)(hs:s.size≤190000):
 toksD kwL sgL (⟨#[a]⟩++s) ((⟨#[a]⟩++s).size+1) 0 true=(6,⟨#[]⟩,⟨#[a]⟩,0)::toksL kwL sgL (s.size+1) (s.size+1) 1 s.data.toList false:=by
 have hsz:((⟨#[a]⟩:ByteArray)++s).size=s.size+1:=by rw [ByteArray.size_append];show 1+s.size=s.size+1;omega
 have hl:sfx ((⟨#[a]⟩:ByteArray)++s) 0=a::s.data.toList:=by
  unfold sfx
  simp [ByteArray.data_append]
 rw [toksD_eq kwL sgL _ (by omega) (by rw [sgL_len];omega) _ 0 true (Int.le_refl _) (by omega),hl,hsz,toksL]
 have hP:pieceL (a::s.data.toList) true=none:=by
  rcases ha with rfl|rfl
  · rw [pieceL];simp [comL]
  · rw [pieceL];simp [comL]
 have hk:pickL sgL true (a::s.data.toList)=(6,1):=by
  have h1:lineL true (a::s.data.toList)=0:=by
   rw [lineL,if_neg (by rcases ha with rfl|rfl<;>decide)]
  have h2:nameL (a::s.data.toList)=0:=by
   rw [nameL,if_neg (by rcases ha with rfl|rfl<;>decide)]
  have h3:numberL (a::s.data.toList)=0:=by
   rw [numberL,if_neg (by
    rintro (h|⟨h,_⟩)
    · rcases ha with rfl|rfl<;>exact absurd h (by decide)
    · rcases ha with rfl|rfl<;>exact absurd h (by decide))]
  have h4:quotedL 39 (a::s.data.toList)=0:=by
   rw [quotedL,if_neg (by rcases ha with rfl|rfl<;>decide)]
  have h5:quotedL 34 (a::s.data.toList)=0:=by
   rw [quotedL,if_neg (by rcases ha with rfl|rfl<;>decide)]
  have h6:signL sgL (a::s.data.toList)=1:=by
   rcases ha with rfl|rfl
   · exact sign_open _
   · exact sign_semi _
  unfold pickL
  rw [h1,h2,h3,h4,h5,h6]
  rfl
 have ht:tokL kwL sgL (s.size+1) 0 (a::s.data.toList) true=((6,⟨#[]⟩,⟨#[a]⟩,0),1,false):=by
  unfold tokL
  rw [befL_none _ _ _ hP]
  simp only
  rw [List.drop_zero,if_neg (by simp),hk]
  rfl
 rw [ht]
 rfl
def behind (s:ByteArray):List Tk:=toksL kwL sgL (s.size+1) (s.size+1) 1 s.data.toList false
theorem scan_head (a:UInt8)(ha:a=40∨a=59)(s:ByteArray)(hs:s.size≤190000):
 scanR (⟨#[a]⟩++s)=if (behind s).length+1>40000 then ([],2) else ((6,⟨#[]⟩,⟨#[a]⟩,0)::behind s,0):=by
 have hsz:((⟨#[a]⟩:ByteArray)++s).size=s.size+1:=by rw [ByteArray.size_append];show 1+s.size=s.size+1;omega
 unfold scanR
 rw [if_neg (by omega),toks_head a ha s hs]
 rfl
theorem toksD_end (s:ByteArray)(hs:s.size≤1000000):∀(f:Nat) (at0:Int) (c:Bool),0≤at0→at0≤s.size→(s.size:Int)-at0<f→∃init e,toksD kwL sgL s f at0 c=init++[e]∧e.1=0∧∀t∈init,t.1≠0
 |0,at0,c,h0,h1,hf=>by omega
 |f+1,at0,c,h0,h1,hf=>by
  obtain ⟨p1,p2,p3,_,_⟩:=tokD_place kwL sgL s at0 c hs h0 h1 (by rw [sgL_len];omega)
  rw [toksD]
  by_cases hk:(tokD kwL sgL s at0 c).1.1=0
  · rw [if_pos hk]
    exact ⟨[],_,rfl,hk,fun t ht=>by simp at ht⟩
  · rw [if_neg hk]
    have:=p3 hk
    obtain ⟨init,e,h1,h2,h3⟩:=toksD_end s hs f _ (tokD kwL sgL s at0 c).2.2 (by omega) p1 (by omega)
    rw [h1]
    refine ⟨(tokD kwL sgL s at0 c).1::init,e,rfl,h2,fun t ht=> ?_⟩
    rcases List.mem_cons.1 ht with rfl|ht
    · exact hk
    · exact h3 t ht
theorem behind_end (s:ByteArray)(hs:s.size≤190000):∃init e,behind s=init++[e]∧e.1=0∧(∀t∈init,t.1≠0∧1≤t.2.2.2∧t.2.2.2≤(s.size:Int))∧init.length≤s.size:=by
 have hsz:((⟨#[40]⟩:ByteArray)++s).size=s.size+1:=by rw [ByteArray.size_append];show 1+s.size=s.size+1;omega
 have hh:=toks_head 40 (.inl rfl) s hs
 obtain ⟨init,e,h1,h2,h3⟩:=toksD_end (⟨#[40]⟩++s) (by omega) ((⟨#[40]⟩++s).size+1) 0 true (Int.le_refl _) (by omega) (by omega)
 have hat:=toksD_at (⟨#[40]⟩++s) (by omega) ((⟨#[40]⟩++s).size+1) 0 true (Int.le_refl _) (by omega)
 have hlen:=toksD_len (⟨#[40]⟩++s) (by omega) ((⟨#[40]⟩++s).size+1) 0 true (Int.le_refl _) (by omega)
 rw [hh] at h1 hat hlen
 show ∃init e,behind s=_∧_
 have hb:toksL kwL sgL (s.size+1) (s.size+1) 1 s.data.toList false=behind s:=rfl
 rw [hb] at h1 hat hlen
 cases init with
 |nil=>
  simp only [List.nil_append,List.cons.injEq] at h1
  rw [←h1.1] at h2
  cases h2
 |cons a init=>
  simp only [List.cons_append,List.cons.injEq] at h1
  obtain ⟨_,h1⟩:=h1
  rw [h1] at hlen
  simp only [List.length_cons,List.length_append,List.length_nil] at hlen
  refine ⟨init,e,h1,h2,fun t ht=> ?_,by omega⟩
  have hne:=h3 t (List.mem_cons_of_mem _ ht)
  obtain ⟨j,hj⟩:=List.getElem?_of_mem ht
  have hjl:=(List.getElem?_eq_some_iff.1 hj).1
  obtain ⟨q1,q2,q3⟩:=hat (j+1) t (by rw [h1,List.getElem?_cons_succ,List.getElem?_append_left hjl];exact hj)
  have:=q3 hne
  have q1':(0:Int)+((j+1:Nat):Int)≤t.2.2.2:=q1
  exact ⟨hne,by omega,by omega⟩
def wTok (add:Int)(t:Tk):Tk:=(t.1,t.2.1,t.2.2.1,t.2.2.2+add-1)
def wHash (add:Int)(t:Tk):Tk:=(6,t.2.1,⟨#[35]⟩,t.2.2.2+add-1)
def rwGo (add:Int):List Tk→List Tk→List Tk × Option Int
 |[],out=>(out,none)
 |t::l,out=>if t.1=0 then rwGo add l out else if t.1=7 then (out++[wHash add t],some (t.2.2.2+add)) else rwGo add l (out++[wTok add t])
theorem rwGo_words (rec_:ByteArray→Int→Option (List Tk))(s:ByteArray)(add:Int)(hs:s.size≤190000)(ha0:0≤add)(ha1:add≤1000000)(e:Tk)(he:e.1=0):
 ∀(zs out res:List Tk),(∀t∈zs,t.1≠0∧1≤t.2.2.2∧t.2.2.2≤(s.size:Int))→wordsGo rec_ s add zs out=some res→
  (rwGo add (zs++[e]) out=(res,none))∨∃o p r,rwGo add (zs++[e]) out=(o,some p)∧rec_ (s.extract (p-add).toNat s.size) p=some r∧res=o++r∧add<p∧p≤add+s.size
 |[],out,res,_,h=>by
  simp only [wordsGo,Option.some.injEq] at h
  left
  rw [List.nil_append,rwGo,if_pos he,rwGo,h]
 |t::zs,out,res,hz,h=>by
  obtain ⟨q1,q2,q3⟩:=hz t (List.mem_cons_self ..)
  have hw:wFrom t.2.2.2=t.2.2.2:=by unfold wFrom;rw [wr (a:=t.2.2.2-1) (by omega) (by omega)];exact wr (by omega) (by omega) |>.trans (by omega)
  have hp:wPlace add t.2.2.2=t.2.2.2+add-1:=by
   unfold wPlace;rw [wr (a:=t.2.2.2-1) (by omega) (by omega)];exact wr (by omega) (by omega) |>.trans (by omega)
  rw [List.cons_append,rwGo,if_neg q1]
  rw [wordsGo] at h
  by_cases hk:t.1=7
  · rw [if_pos hk,hw,hp,if_pos ⟨by omega,q3⟩,wr (by omega) (by omega)] at h
    rw [if_pos hk]
    right
    obtain ⟨r,hr,h⟩:=Option.bind_eq_some_iff.1 h
    split at h
    · refine ⟨_,_,r,rfl,?_,(Option.some.inj h).symm,by omega,by omega⟩
      rw [show t.2.2.2+add-add=t.2.2.2 by omega,show t.2.2.2+add=add+t.2.2.2 by omega]
      exact hr
    · cases h
  · rw [if_neg hk,hp] at h
    rw [if_neg hk]
    exact rwGo_words rec_ s add hs ha0 ha1 e he zs _ res (fun t' ht'=>hz t' (List.mem_cons_of_mem _ ht')) h
theorem wordsGo_out (rec_:ByteArray→Int→Option (List Tk))(s:ByteArray)(add:Int):∀(zs out pre:List Tk),wordsGo rec_ s add zs (pre++out)=(wordsGo rec_ s add zs out).map (pre++ ·)
 |[],out,pre=>rfl
 |t::zs,out,pre=>by
  rw [wordsGo,wordsGo]
  by_cases hk:t.1=7
  · rw [if_pos hk,if_pos hk]
    split
    · cases rec_ (s.extract (wFrom t.2.2.2).toNat s.size) (wrap64 (add+wFrom t.2.2.2)) with
      |none=>rfl
      |some r=>
       simp only [Option.bind_some]
       split
       · simp
       · rfl
    · rfl
  · rw [if_neg hk,if_neg hk,List.append_assoc]
    exact wordsGo_out rec_ s add zs _ pre
theorem words_round (K:Nat)(s:ByteArray)(add:Int)(out res:List Tk)(hs:s.size≤190000)(hb:(behind s).length+1≤40000)(ha0:0≤add)(ha1:add≤1000000)(h:wordsF (K+1) s add=some res):
 (scanR (⟨#[59]⟩++s)).2=0∧(scanR (⟨#[59]⟩++s)).1=(6,⟨#[]⟩,⟨#[59]⟩,0)::behind s∧
  ((rwGo add (behind s) out=(out++res,none))∨∃o p r,rwGo add (behind s) out=(o,some p)∧wordsF K (s.extract (p-add).toNat s.size) p=some r∧out++res=o++r∧add<p∧p≤add+s.size):=by
 have h59:=scan_head 59 (.inr rfl) s hs
 have h40:=scan_head 40 (.inl rfl) s hs
 rw [if_neg (by omega)] at h59 h40
 refine ⟨by rw [h59],by rw [h59],?_⟩
 obtain ⟨init,e,e1,e2,e3,e4⟩:=behind_end s hs
 rw [wordsF] at h
 simp only [h40] at h
 rw [if_pos trivial] at h
 have hl:(((6:Int),(⟨#[]⟩:ByteArray),(⟨#[40]⟩:ByteArray),(0:Int))::behind s).length=init.length+2:=by
  rw [e1];simp
 rw [hl,if_pos ⟨by omega,by omega⟩] at h
 have ht:((((6:Int),(⟨#[]⟩:ByteArray),(⟨#[40]⟩:ByteArray),(0:Int))::behind s).take (init.length+2-1)).drop 1=init:=by
  rw [e1,show init.length+2-1=init.length+1 by omega,List.take_succ_cons]
  simp
 rw [ht] at h
 have h':=wordsGo_out (wordsF K) s add init [] out
 rw [h,List.append_nil] at h'
 rw [e1]
 exact rwGo_words (wordsF K) s add hs ha0 ha1 e e2 init out (out++res) e3 h'
end Go.Proofs.YtolaiebjmhieiaaGreatDoor.OScan
end
