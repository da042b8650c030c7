/- Parts of the proof of HeadUsers; no condition. -/
import Derived.Test.YtolaiebjmhieiaaGreatDoorM01
import Derived.Test.YtolaiebjmhieiaaGreatDoorM07
import Derived.Test.YtolaiebjmhieiaaGreatDoorM03
import Derived.Test.YtolaiebjmhieiaaGreatDoorM06
import Derived.Test.YtolaiebjmhieiaaGreatDoorProg
import Derived.Below
import Derived.Deep.Draws
import Derived.Deep.AppendLies
import Derived.Maps.AppendAt
import Derived.OwnWalk
import Derived.Laws.BytesArg
import Derived.Laws.MakeOwn
import Derived.Laws.OwnMore
import Derived.Deep.OwnRows
import Derived.Tactics
import Derived.Lib.ConvBytes
import Derived.Laws.Slices
import Derived.WalkKit
import Derived.KernelRfl
import Derived.RowKit3
import Derived.Deep.LoopGhost
import Derived.Deep.QuietTactic
import Derived.BigQuiet
import Derived.WideLaws
import Derived.Deep.DeepCutAuto
import Derived.Deep.CutBlock
import Derived.Deep.RegionHeld3
import Derived.Laws.Rows
import Derived.Lib.AppendStr
import Derived.ArgAppend
import Derived.Laws.IdiomCopy
import Derived.OrdersHeld
import Derived.Laws.BitsLemmas
import Derived.RowKit
set_option maxHeartbeats 8000000
set_option maxRecDepth 100000
set_option linter.unusedVariables false
set_option linter.unusedSimpArgs false
section
namespace Go.Proofs.YtolaiebjmhieiaaGreatDoor.ORef
open Go.RowKit YtolaiebjmhieiaaGreatDoorW.PrintWords YtolaiebjmhieiaaGreatDoorW.PrintLast YtolaiebjmhieiaaGreatDoorW.PrintMore
attribute [local go_sem] jF jD ku jZ jc iZ jE jC
mutual
def aJ.j0:Nat→ByteArray→Int→Int→Bool→Option (Int × Int)
 |0,_,_,_,_=>none
 |k+1,x0,x1,x8,x14=>if x14=true then ((dO.f k x0 x1).bind fun t131=>(some (7,t131))) else ((dw.f x8).bind fun t132=>(if t132=true then ((bQ.f k x0 x1).bind fun bt133=>(some (bt133.1,bt133.2))) else ((dB.f x8).bind fun t135=>(if t135=true then (aJ.j1 k x0 x1 x8 true) else (if x8=46 then ((bM.f x0 (wrap64 (x1+1))).bind fun t136=>((dB.f t136).bind fun t137=>(aJ.j1 k x0 x1 x8 t137))) else (aJ.j1 k x0 x1 x8 false))))))
def aJ.j1:Nat→ByteArray→Int→Int→Bool→Option (Int × Int)
 |0,_,_,_,_=>none
 |k+1,x0,x1,x8,x31=>if x31=true then ((aU.f k x0 x1).bind fun t138=>(some (3,t138))) else (if x8=39 then (aJ.j2 k x0 x1 x8 true) else (aJ.j2 k x0 x1 x8 (x8==34)))
def aJ.j2:Nat→ByteArray→Int→Int→Bool→Option (Int × Int)
 |0,_,_,_,_=>none
 |k+1,x0,x1,x8,x48=>if x48=true then ((bg.f k x0 x1).bind fun t139=>(if t139=x1 then (some (8,wrap64 (x1+1))) else (if x8=34 then (some (5,t139)) else (some (4,t139))))) else ((dI.f k x0 x1).bind fun t140=>(if t140.toList=([]:List UInt8) then (some (8,wrap64 (x1+1))) else (some (6,wrap64 (x1+(t140.size:Int))))))
end
def aJ.f (k:Nat)(a0:ByteArray)(a1:Int)(a2:Bool):Option (Int × Int):=if 0≤a1 then (if a1<(a0.size:Int) then (if (bt a0 a1)=35 then (aJ.j0 k a0 a1 (bt a0 a1) a2) else (aJ.j0 k a0 a1 (bt a0 a1) false)) else (none)) else (none)
theorem aJ.calls (k:Nat)(a0:ByteArray)(a1:Int)(a2:Bool)(r1:Int)(r2:Int)(w:World)(h:aJ.f k a0 a1 a2=some (r1,r2)):
 Calls Tryz.prog 139 #[.string a0,.int .i64 a1,.bool a2] w fun e w'=>e= .returned (.tuple #[.int .i64 r1,.int .i64 r2])∧Below w.heap.size w w':=by
 have HB:=z0 (Below.refl w.heap.size w)
 have H:=h
 clear h
 unfold aJ.f at H
 replace H:=zdn H
 obtain ⟨c4b0,H⟩:=H
 replace H:=zdn H
 obtain ⟨c5b0,H⟩:=H
 have HC7:=z0 H
 clear H
 obtain ⟨p6,q6,hx6⟩:=zb a0 a1
 go_enter Tryz.func139,Tryz.ntmps139
 go_upto_region 2 with (fail)
 go_cut [14] (fun v14 wc=>∃(kq:Nat) (x14_6:Bool),v14= .bool x14_6∧ah (aJ.j0 kq a0 a1 (bt a0 a1) x14_6=some (r1,r2))∧ah (kq≤k)∧ah (Below w.heap.size w wc))
 case first=>
  have H:=HC7.out
  clear HC7
  replace H:=ze H
  rcases H with ⟨c8b0,c8b1,H⟩|⟨c8b0,c8b1,H⟩
  · (first|rw [c8b0]|(simp only [dZ,fG];rw [c8b0])|skip)
    have H':=z0 H
    clear H
    go_wp2
    go_meet
    case rel=>exact ⟨_,(a2),zr,H',⟨by first|omega|exact Nat.le_refl _⟩,⟨zw⟩⟩
  · (first|rw [c8b0]|(simp only [dZ,fG];rw [c8b0])|skip)
    have H':=z0 H
    clear H
    go_wp2
    go_meet
    case rel=>exact ⟨_,(false),zr,H',⟨by first|omega|exact Nat.le_refl _⟩,⟨zw⟩⟩
 case rest=>
  clear HC7
  obtain ⟨kq,x14_6,rfl,HA,HJ6,HB⟩:=hcut
  cases kq with
  |zero=>exact absurd HA.out (by simp [aJ.j0])
  |succ kj6=>
   have H:=HA.out
   clear HA
   simp only [aJ.j0] at H
   by_cases c9:x14_6=true
   · subst c9
     rw [if_pos rfl] at H
     replace H:=zo H
     obtain ⟨t131,A10,H⟩:=H
     (try dsimp only at H)
     simp only [Option.some.injEq,Prod.mk.injEq] at H
     obtain ⟨rfl,rfl⟩:=H
     go_wp2_with (first|(refine zc 22 rfl Tryz.func175 #[.string a0,.int .i64 a1] ?_;refine za (dO.calls kj6 a0 a1 t131 _ A10.out) fun nd=> ?_))
     go_ret2
     exact ⟨zv,zw⟩
   · replace c9:=Bool.eq_false_iff.mpr c9
     subst c9
     rw [if_neg nofun] at H
     replace H:=zo H
     obtain ⟨t132,A11,H⟩:=H
     (try dsimp only at H)
     by_cases c12:t132=true
     · subst c12
       rw [if_pos rfl] at H
       replace H:=zo H
       obtain ⟨⟨t133,t134⟩,A13,H⟩:=H
       (try dsimp only at H)
       simp only [Option.some.injEq,Prod.mk.injEq] at H
       obtain ⟨rfl,rfl⟩:=H
       go_wp2_with (first|(refine zc 25 rfl Tryz.func176 #[.int .u8 (bt a0 a1)] ?_;refine za (dw.calls (bt a0 a1) true _ A11.out) fun nd=> ?_)|(refine zc 28 rfl Tryz.func177 #[.string a0,.int .i64 a1] ?_;(with_reducible refine (bQ.calls kj6 a0 a1 t133 t134 _ A13.out).mono ?_);rintro e w14 ⟨rfl,hb⟩;refine ⟨_,rfl,?_⟩;have n0_:=z0 (ak zw hb);revert n0_;clear HB;intro HB;(try clear hb);(try clear hk);(try clear hi)))
       go_ret2
       exact ⟨zv,zw⟩
     · replace c12:=Bool.eq_false_iff.mpr c12
       subst c12
       rw [if_neg nofun] at H
       have HC15:=z0 H
       clear H
       go_upto_region 6 with (first|(refine zc 25 rfl Tryz.func176 #[.int .u8 (bt a0 a1)] ?_;refine za (dw.calls (bt a0 a1) false _ A11.out) fun nd=> ?_))
       (try simp only [Act.put,List.setIfInBounds_toArray,List.set_cons_zero,List.set_cons_succ])
       go_cut [31] (fun v31 wc=>∃(kq:Nat) (x31_14:Bool),v31= .bool x31_14∧ah (aJ.j1 kq a0 a1 (bt a0 a1) x31_14=some (r1,r2))∧ah (kq≤kj6)∧ah (Below w.heap.size w wc))
       case first=>
        have H:=HC15.out
        clear HC15
        replace H:=zo H
        obtain ⟨t135,A16,H⟩:=H
        (try dsimp only at H)
        by_cases c17:t135=true
        · subst c17
          rw [if_pos rfl] at H
          have H':=z0 H
          clear H
          go_wp2_with (first|(refine zc 33 rfl Tryz.func178 #[.int .u8 (bt a0 a1)] ?_;refine za (dB.calls (bt a0 a1) true _ A16.out) fun nd=> ?_))
          go_meet
          case rel=>exact ⟨_,(true),zr,H',⟨by have:=HJ6.out;first|omega|exact Nat.le_refl _⟩,⟨zw⟩⟩
        · replace c17:=Bool.eq_false_iff.mpr c17
          subst c17
          rw [if_neg nofun] at H
          replace H:=ze H
          rcases H with ⟨c18b0,c18b1,H⟩|⟨c18b0,c18b1,H⟩
          · (first|rw [c18b0]|(simp only [dZ,fG];rw [c18b0])|skip)
            replace H:=zo H
            obtain ⟨t136,A19,H⟩:=H
            (try dsimp only at H)
            replace H:=zo H
            obtain ⟨t137,A20,H⟩:=H
            (try dsimp only at H)
            have H':=z0 H
            clear H
            go_wp2_with (first|(refine zc 33 rfl Tryz.func178 #[.int .u8 (bt a0 a1)] ?_;refine za (dB.calls (bt a0 a1) false _ A16.out) fun nd=> ?_)|(go_at_call 173;(with_reducible refine (bM.calls a0 (wrap64 (a1+1)) t136 _ A19.out).mono ?_);rintro e w' ⟨rfl,⟨nd,rfl⟩⟩)|(go_at_call 178;(with_reducible refine (dB.calls t136 t137 _ A20.out).mono ?_);rintro e w' ⟨rfl,⟨nd,rfl⟩⟩))
            go_meet
            case rel=>exact ⟨_,(t137),zr,H',⟨by have:=HJ6.out;first|omega|exact Nat.le_refl _⟩,⟨zw⟩⟩
          · (first|rw [c18b0]|(simp only [dZ,fG];rw [c18b0])|skip)
            have H':=z0 H
            clear H
            go_wp2_with (first|(refine zc 33 rfl Tryz.func178 #[.int .u8 (bt a0 a1)] ?_;refine za (dB.calls (bt a0 a1) false _ A16.out) fun nd=> ?_))
            go_meet
            case rel=>exact ⟨_,(false),zr,H',⟨by have:=HJ6.out;first|omega|exact Nat.le_refl _⟩,⟨zw⟩⟩
       case rest=>
        clear HC15
        obtain ⟨kq,x31_14,rfl,HA,HJ14,HB⟩:=hcut
        cases kq with
        |zero=>exact absurd HA.out (by simp [aJ.j1])
        |succ kj14=>
         have H:=HA.out
         clear HA
         simp only [aJ.j1] at H
         by_cases c21:x31_14=true
         · subst c21
           rw [if_pos rfl] at H
           replace H:=zo H
           obtain ⟨t138,A22,H⟩:=H
           (try dsimp only at H)
           simp only [Option.some.injEq,Prod.mk.injEq] at H
           obtain ⟨rfl,rfl⟩:=H
           go_wp2_with (first|(refine zc 47 rfl Tryz.func179 #[.string a0,.int .i64 a1] ?_;refine za (aU.calls kj14 a0 a1 t138 _ A22.out) fun nd=> ?_))
           go_ret2
           exact ⟨zv,zw⟩
         · replace c21:=Bool.eq_false_iff.mpr c21
           subst c21
           rw [if_neg nofun] at H
           have HC23:=z0 H
           clear H
           go_upto_region 8 with (fail)
           go_cut [48] (fun v48 wc=>∃(kq:Nat) (x48_22:Bool),v48= .bool x48_22∧ah (aJ.j2 kq a0 a1 (bt a0 a1) x48_22=some (r1,r2))∧ah (kq≤kj14)∧ah (Below w.heap.size w wc))
           case first=>
            have H:=HC23.out
            clear HC23
            replace H:=ze H
            rcases H with ⟨c24b0,c24b1,H⟩|⟨c24b0,c24b1,H⟩
            · (first|rw [c24b0]|(simp only [dZ,fG];rw [c24b0])|skip)
              have H':=z0 H
              clear H
              go_wp2
              go_meet
              case rel=>exact ⟨_,(true),zr,H',⟨by have:=HJ6.out;have:=HJ14.out;first|omega|exact Nat.le_refl _⟩,⟨zw⟩⟩
            · (first|rw [c24b0]|(simp only [dZ,fG];rw [c24b0])|skip)
              have H':=z0 H
              clear H
              go_wp2
              go_meet
              case rel=>exact ⟨_,(((bt a0 a1)==34)),zr,H',⟨by have:=HJ6.out;have:=HJ14.out;first|omega|exact Nat.le_refl _⟩,⟨zw⟩⟩
           case rest=>
            clear HC23
            obtain ⟨kq,x48_22,rfl,HA,HJ22,HB⟩:=hcut
            cases kq with
            |zero=>exact absurd HA.out (by simp [aJ.j2])
            |succ kj22=>
             have H:=HA.out
             clear HA
             simp only [aJ.j2] at H
             by_cases c25:x48_22=true
             · subst c25
               rw [if_pos rfl] at H
               replace H:=zo H
               obtain ⟨t139,A26,H⟩:=H
               (try dsimp only at H)
               replace H:=ze H
               rcases H with ⟨c27b0,c27b1,H⟩|⟨c27b0,c27b1,H⟩
               · simp only [Option.some.injEq,Prod.mk.injEq] at H
                 obtain ⟨rfl,rfl⟩:=H
                 go_wp2_with (first|(refine zc 57 rfl Tryz.func180 #[.string a0,.int .i64 a1] ?_;refine za (bg.calls kj22 a0 a1 t139 _ A26.out) fun nd=> ?_))
                 go_ret2
                 exact ⟨zv,zw⟩
               · replace H:=ze H
                 rcases H with ⟨c28b0,c28b1,H⟩|⟨c28b0,c28b1,H⟩
                 · simp only [Option.some.injEq,Prod.mk.injEq] at H
                   obtain ⟨rfl,rfl⟩:=H
                   go_wp2_with (first|(refine zc 57 rfl Tryz.func180 #[.string a0,.int .i64 a1] ?_;refine za (bg.calls kj22 a0 a1 t139 _ A26.out) fun nd=> ?_))
                   go_ret2
                   exact ⟨zv,zw⟩
                 · simp only [Option.some.injEq,Prod.mk.injEq] at H
                   obtain ⟨rfl,rfl⟩:=H
                   go_wp2_with (first|(refine zc 57 rfl Tryz.func180 #[.string a0,.int .i64 a1] ?_;refine za (bg.calls kj22 a0 a1 t139 _ A26.out) fun nd=> ?_))
                   go_ret2
                   exact ⟨zv,zw⟩
             · replace c25:=Bool.eq_false_iff.mpr c25
               subst c25
               rw [if_neg nofun] at H
               replace H:=zo H
               obtain ⟨t140,A29,H⟩:=H
               (try dsimp only at H)
               replace H:=zE H
               rcases H with ⟨c30b0,c30b1,H⟩|⟨c30b0,c30b1,H⟩
               · simp only [Option.some.injEq,Prod.mk.injEq] at H
                 obtain ⟨rfl,rfl⟩:=H
                 go_wp2_with (first|(refine zc 69 rfl Tryz.func181 #[.string a0,.int .i64 a1] ?_;(with_reducible refine (dI.calls kj22 a0 a1 t140 _ A29.out).mono ?_);rintro e w31 ⟨rfl,hb⟩;refine ⟨_,rfl,?_⟩;have n0_:=z0 (ak zw hb);revert n0_;clear HB;intro HB;(try clear hb);(try clear hk);(try clear hi)))
                 go_ret2
                 exact ⟨zv,zw⟩
               · simp only [Option.some.injEq,Prod.mk.injEq] at H
                 obtain ⟨rfl,rfl⟩:=H
                 go_wp2_with (first|(refine zc 69 rfl Tryz.func181 #[.string a0,.int .i64 a1] ?_;(with_reducible refine (dI.calls kj22 a0 a1 t140 _ A29.out).mono ?_);rintro e w32 ⟨rfl,hb⟩;refine ⟨_,rfl,?_⟩;have n0_:=z0 (ak zw hb);revert n0_;clear HB;intro HB;(try clear hb);(try clear hk);(try clear hi)))
                 go_ret2
                 exact ⟨zv,zw⟩
mutual
def aI.l0:Nat→ByteArray→List (S95)→Int→Int→Bool→Option ((List (S95)))
 |0,_,_,_,_,_=>none
 |k+1,x0,x3,x4,x5,x6=>(bY.f k x0 x5).bind fun t141=>(if t141>x5 then (aI.l1 k x0 x3 x4 x5 x6 t141 x5) else (if x5=(x0.size:Int) then (if 0≤x4 then (if x4≤(x0.size:Int) then (if x3.length<2932031007402 then (some (x3++[(⟨0,x0.extract (x4:Int).toNat x0.size,(⟨#[]⟩:ByteArray),x5⟩:S95)])) else (none)) else (none)) else (none)) else ((aJ.f k x0 x5 x6).bind fun bt145=>(if 0≤x4 then (if x4≤x5 then (if x5≤(x0.size:Int) then (if 0≤x5 then (if x5≤bt145.2 then (if bt145.2≤(x0.size:Int) then (if x3.length<2932031007402 then (aI.l0 k x0 (x3++[(⟨bt145.1,x0.extract (x4:Int).toNat (x5:Int).toNat,x0.extract (x5:Int).toNat (bt145.2:Int).toNat,x5⟩:S95)]) bt145.2 bt145.2 false) else (none)) else (none)) else (none)) else (none)) else (none)) else (none)) else (none)))))
def aI.l1:Nat→ByteArray→List (S95)→Int→Int→Bool→Int→Int→Option ((List (S95)))
 |0,_,_,_,_,_,_,_=>none
 |k+1,x0,x3,x4,x5,x6,x7,x8=>if x8<x7 then (if 0≤x8 then (if x8<(x0.size:Int) then (if (bt x0 x8)=10 then (aI.l1 k x0 x3 x4 x5 true x7 (wrap64 (x8+1))) else (aI.l1 k x0 x3 x4 x5 x6 x7 (wrap64 (x8+1)))) else (none)) else (none)) else (if x7=(wrap64 (x5+1)) then (if 0≤x5 then (if x5<(x0.size:Int) then (if (bt x0 x5)≥11 then (aI.j2 k x0 x3 x4 x6 x7 (decide ((bt x0 x5)≤13))) else (aI.j2 k x0 x3 x4 x6 x7 false)) else (none)) else (none)) else (aI.j2 k x0 x3 x4 x6 x7 false))
def aI.j2:Nat→ByteArray→List (S95)→Int→Bool→Int→Bool→Option ((List (S95)))
 |0,_,_,_,_,_,_=>none
 |k+1,x0,x3,x4,x6,x7,x42=>if x42=true then (aI.l0 k x0 x3 x4 x7 false) else (aI.l0 k x0 x3 x4 x7 x6)
end
def aI.f (k:Nat)(a0:ByteArray):Option ((List (S95))):=aI.l0 k a0 ([]:List (S95)) 0 0 true
def aI.T17:Bool × List (List Nat × List Nat):=(true,[([],[]),([],[]),([],[]),([],[]),([],[]),([2,3,4],[2,3,4]),([],[]),([],[]),([],[]),([6,7,8],[6,7,8]),([],[]),([1,5,9,10],[1,5,9,10]),([11],[11]),([0,12],[0,12]),([13,13,0,1,2,3,4,5,6,7,8,9,10,11,12,13],[0,13])])
def aI.B17:List Nat:=[0,0,0,0,0,28,0,0,0,448,0,2046,4094,8191,16383]
theorem aI.MZ:qm .any (opsOf Tryz.f81 17)=aI.T17:=by kernel_rfl
theorem aI.L9:zV aI.T17.2 aI.B17=true:=by kernel_rfl
theorem aI.calls (k:Nat)(a0:ByteArray)(r:List (S95))(w:World)(h:aI.f k a0=some r):
 Calls Tryz.prog 81 #[.string a0] w fun e w'=>∃v0_:Value,e= .returned (v0_)∧Kd.R k95 95 w' w.heap.size (fun _=>True) v0_ r∧Below w.heap.size w w':=by
 have hu95:=Tryz.underlying95
 have HB:=z0 (Below.refl w.heap.size w)
 have H:=h
 clear h
 unfold aI.f at H
 have H':=z0 H
 clear H
 go_enter Tryz.func81,Tryz.ntmps81
 go_wp2
 (try go_simp)
 go_loopg [3,4,5,6] k (fun kq v3 v4 v5 v6 w'=>∃(x3_1:List (S95)) (x4_1:Int) (x5_1:Int) (x6_1:Bool),v4= .int .i64 x4_1∧v5= .int .i64 x5_1∧v6= .bool x6_1∧ah (aI.l0 kq a0 x3_1 x4_1 x5_1 x6_1=some r)∧ah (kq≤k)∧ah (Kd.R k95 95 w' w.heap.size (fun _=>True) v3 x3_1)∧ah (Below w.heap.size w w'))
 case atStart=>exact ⟨(([]:List (S95))),(0),(0),(true),zr,zr,zr,H',⟨Nat.le_refl _⟩,⟨by first|exact Kd.gQ _ _ _ _ _|exact Kd.N_nil _ _ _ _ _|exact Kd.V_nil _ _ _ _ _|exact Kd.Q_nil _ _ _ _ _|exact Kd.uS _ _ _ _ _⟩,⟨zw⟩⟩
 case round=>
  clear H'
  obtain ⟨x3_1,x4_1,x5_1,x6_1,rfl,rfl,rfl,HA,HK1,HO_3,HB⟩:=hrel
  cases gk with
  |zero=>exact absurd HA.out (by simp [aI.l0])
  |succ k1=>
   have H:=HA.out
   clear HA
   simp only [aI.l0] at H
   replace H:=zo H
   obtain ⟨t141,A2,H⟩:=H
   (try dsimp only at H)
   replace H:=zt H
   rcases H with ⟨c3b0,H⟩|⟨c3b0,H⟩
   · have H':=z0 H
     clear H
     go_wp2_with (first|(refine zc 13 rfl Tryz.func138 #[.string a0,.int .i64 x5_1] ?_;refine za (bY.calls k1 a0 x5_1 t141 _ A2.out) fun nd=> ?_))
     (try go_simp)
     go_loopg [6,8] k1 (fun kq v6 v8 w'=>∃(x6_2:Bool) (x8_2:Int),v6= .bool x6_2∧v8= .int .i64 x8_2∧ah (aI.l1 kq a0 x3_1 x4_1 x5_1 x6_2 t141 x8_2=some r)∧ah (kq≤k1)∧ah (Kd.R k95 95 w' w.heap.size (fun _=>True) u3 x3_1)∧ah (Below w.heap.size w w'))
     case atStart=>exact ⟨(x6_1),(x5_1),zr,zr,H',⟨Nat.le_refl _⟩,⟨by (with_reducible repeat (first|apply Kd.dP|apply Kd.dS|apply Kd.fU));exact HO_3.out⟩,⟨zw⟩⟩
     case round=>
      clear H'
      obtain ⟨x6_2,x8_2,rfl,rfl,HA,HK2,HO_3,HB⟩:=hrel
      cases gk with
      |zero=>exact absurd HA.out (by simp [aI.l1])
      |succ k2=>
       have H:=HA.out
       clear HA
       simp only [aI.l1] at H
       replace H:=zd H
       rcases H with ⟨c4b0,H⟩|⟨c4b0,H⟩
       · replace H:=zdn H
         obtain ⟨c5b0,H⟩:=H
         replace H:=zdn H
         obtain ⟨c6b0,H⟩:=H
         replace H:=ze H
         rcases H with ⟨c8b0,c8b1,H⟩|⟨c8b0,c8b1,H⟩
         · have H':=z0 H
           clear H
           obtain ⟨p7,q7,hx7⟩:=zb a0 x8_2
           go_wp2
           go_roundg k2
           case measure=>have:=HK1.out;have:=HK2.out;omega
           case rel=>exact ⟨(true),(wrap64 (x8_2+1)),zr,zr,H',⟨by have:=HK1.out;have:=HK2.out;omega⟩,⟨by (with_reducible repeat (first|apply Kd.dP|apply Kd.dS|apply Kd.fU));exact HO_3.out⟩,⟨zw⟩⟩
         · have H':=z0 H
           clear H
           obtain ⟨p7,q7,hx7⟩:=zb a0 x8_2
           go_wp2
           go_roundg k2
           case measure=>have:=HK1.out;have:=HK2.out;omega
           case rel=>exact ⟨(x6_2),(wrap64 (x8_2+1)),zr,zr,H',⟨by have:=HK1.out;have:=HK2.out;omega⟩,⟨by (with_reducible repeat (first|apply Kd.dP|apply Kd.dS|apply Kd.fU));exact HO_3.out⟩,⟨zw⟩⟩
       · have HC9:=z0 H
         clear H
         go_upto_region 11 with (fail)
         go_cut [42] (fun v42 wc=>∃(kq:Nat) (x42_8:Bool),v42= .bool x42_8∧ah (aI.j2 kq a0 x3_1 x4_1 x6_2 t141 x42_8=some r)∧ah (kq≤k2)∧ah (Kd.R k95 95 wc w.heap.size (fun _=>True) u3 x3_1)∧ah (Below w.heap.size w wc))
         case first=>
          have H:=HC9.out
          clear HC9
          replace H:=ze H
          rcases H with ⟨c10b0,c10b1,H⟩|⟨c10b0,c10b1,H⟩
          · (first|rw [c10b0]|(simp only [dZ,fG];rw [c10b0])|skip)
            replace H:=zdn H
            obtain ⟨c11b0,H⟩:=H
            replace H:=zdn H
            obtain ⟨c12b0,H⟩:=H
            replace H:=zg H
            rcases H with ⟨c14b0,H⟩|⟨c14b0,H⟩
            · have H':=z0 H
              clear H
              obtain ⟨p13,q13,hx13⟩:=zb a0 x5_1
              go_wp2
              go_meet
              case rel=>exact ⟨_,(decide ((bt a0 x5_1)≤13)),zr,H',⟨by have:=HK1.out;have:=HK2.out;first|omega|exact Nat.le_refl _⟩,⟨by (with_reducible repeat (first|apply Kd.dP|apply Kd.dS|apply Kd.fU));exact HO_3.out⟩,⟨zw⟩⟩
            · have H':=z0 H
              clear H
              obtain ⟨p13,q13,hx13⟩:=zb a0 x5_1
              go_wp2
              go_meet
              case rel=>exact ⟨_,(false),zr,H',⟨by have:=HK1.out;have:=HK2.out;first|omega|exact Nat.le_refl _⟩,⟨by (with_reducible repeat (first|apply Kd.dP|apply Kd.dS|apply Kd.fU));exact HO_3.out⟩,⟨zw⟩⟩
          · (first|rw [c10b0]|(simp only [dZ,fG];rw [c10b0])|skip)
            have H':=z0 H
            clear H
            go_wp2
            go_meet
            case rel=>exact ⟨_,(false),zr,H',⟨by have:=HK1.out;have:=HK2.out;first|omega|exact Nat.le_refl _⟩,⟨by (with_reducible repeat (first|apply Kd.dP|apply Kd.dS|apply Kd.fU));exact HO_3.out⟩,⟨zw⟩⟩
         case rest=>
          clear HC9
          obtain ⟨kq,x42_8,rfl,HA,HJ8,HO_3,HB⟩:=hcut
          cases kq with
          |zero=>exact absurd HA.out (by simp [aI.j2])
          |succ kj8=>
           have H:=HA.out
           clear HA
           simp only [aI.j2] at H
           by_cases c16:x42_8=true
           · subst c16
             rw [if_pos rfl] at H
             have H':=z0 H
             clear H
             go_wp2
             go_roundg kj8
             case measure=>have:=HK1.out;have:=HK2.out;have:=HJ8.out;omega
             case rel=>exact ⟨(x3_1),(x4_1),(t141),(false),zr,zr,zr,H',⟨by have:=HK1.out;have:=HK2.out;have:=HJ8.out;omega⟩,⟨by (with_reducible repeat (first|apply Kd.dP|apply Kd.dS|apply Kd.fU));exact HO_3.out⟩,⟨zw⟩⟩
           · replace c16:=Bool.eq_false_iff.mpr c16
             subst c16
             rw [if_neg nofun] at H
             have H':=z0 H
             clear H
             go_wp2
             go_roundg kj8
             case measure=>have:=HK1.out;have:=HK2.out;have:=HJ8.out;omega
             case rel=>exact ⟨(x3_1),(x4_1),(t141),(x6_2),zr,zr,zr,H',⟨by have:=HK1.out;have:=HK2.out;have:=HJ8.out;omega⟩,⟨by (with_reducible repeat (first|apply Kd.dP|apply Kd.dS|apply Kd.fU));exact HO_3.out⟩,⟨zw⟩⟩
   · replace H:=ze H
     rcases H with ⟨c17b0,c17b1,H⟩|⟨c17b0,c17b1,H⟩
     · replace H:=zyn H
       obtain ⟨c18b0,c18b1,H⟩:=H
       replace H:=zyn H
       obtain ⟨c19b0,c19b1,H⟩:=H
       by_cases c20:x3_1.length<2932031007402
       · rw [if_pos c20] at H
         have LMc20:=z0 c20
         clear c20
         obtain ⟨y142,hy142⟩:∃y_:List (S95),y_=(x3_1++[(⟨0,a0.extract (x4_1:Int).toNat a0.size,(⟨#[]⟩:ByteArray),x5_1⟩:S95)]):=⟨_,rfl⟩
         replace H:(some y142)=some r:=by first|(rw [hy142];with_reducible exact H)|(have H2_:=(Option.bind_some _ _).symm.trans H;rw [hy142];with_reducible exact H2_)|(have H2_:=(Option.bind_some _ _).symm.trans H;with_reducible exact H2_)|with_reducible exact H|(rw [hy142];exact H)|exact H
         have Ny142:=z0 hy142
         clear hy142
         obtain rfl:=Option.some.inj H
         go_wp2_with (first|(refine zc 13 rfl Tryz.func138 #[.string a0,.int .i64 x5_1] ?_;refine za (bY.calls k1 a0 x5_1 t141 _ A2.out) fun nd=> ?_)|((with_reducible refine oI (b:= .append) (xs:= #[.tmp 48,.tmp 54]) rfl ?_);at_builtin;refine Kd.fH k95 (w0:=w) w.heap.size rfl (.tmp 48) (.tmp 54) 52 95 (.agg #[(.int .i64 0),(.string ⟨#[]⟩),(.string ⟨#[]⟩),(.int .i64 0)]) 48 rfl Tryz.underlying52 nD rfl (by decide) (by omega) u3 x3_1 (⟨0,a0.extract (x4_1:Int).toNat a0.size,(⟨#[]⟩:ByteArray),x5_1⟩:S95) [.int .i64 0,.string (a0.extract (x4_1:Int).toNat a0.size),.string (⟨#[]⟩:ByteArray),.int .i64 x5_1] (fun _=>True) (fun _=>False) rfl rfl ?aP (fun _ hk=>hk.elim) ?aF ?aO ?aB ?aS ?aL ?_;(case aP=>exact EJ _ _ _ (⟨0,a0.extract (x4_1:Int).toNat a0.size,(⟨#[]⟩:ByteArray),x5_1⟩:S95));(case aB=>exact zw);(case aF=>exact (fun _ _=>trivial));(case aO=>exact (by (with_reducible repeat (first|apply Kd.dP|apply Kd.dS|apply Kd.fU));exact HO_3.out));(case aS=>exact (aQ zw));(case aL=>have:=LMc20.out;omega);intro v143 w21 ho hb hg hat;rw [←Ny142.out] at ho;have n0_:=z0 (hb);have n1_:=z0 (ho);revert n0_ n1_;clear HB HO_3;intro HB HO144;clear ho hb hg hat))
         go_ret
         exact ⟨_,zv,by (with_reducible repeat (first|apply Kd.dP|apply Kd.dS|apply Kd.fU));exact HO144.out,zw⟩
       · rw [if_neg c20] at H
         cases H
     · replace H:=zo H
       obtain ⟨⟨t145,t146⟩,A22,H⟩:=H
       (try dsimp only at H)
       replace H:=zyn H
       obtain ⟨c23b0,c23b1,H⟩:=H
       replace H:=zyn H
       obtain ⟨c24b0,c24b1,H⟩:=H
       replace H:=zyn H
       obtain ⟨c25b0,c25b1,H⟩:=H
       replace H:=zyn H
       obtain ⟨c26b0,c26b1,H⟩:=H
       replace H:=zyn H
       obtain ⟨c27b0,c27b1,H⟩:=H
       replace H:=zyn H
       obtain ⟨c28b0,c28b1,H⟩:=H
       by_cases c29:x3_1.length<2932031007402
       · rw [if_pos c29] at H
         have LMc29:=z0 c29
         clear c29
         obtain ⟨y147,hy147⟩:∃y_:List (S95),y_=(x3_1++[(⟨t145,a0.extract (x4_1:Int).toNat (x5_1:Int).toNat,a0.extract (x5_1:Int).toNat (t146:Int).toNat,x5_1⟩:S95)]):=⟨_,rfl⟩
         replace H:(aI.l0 k1 a0 y147 t146 t146 false)=some r:=by first|(rw [hy147];with_reducible exact H)|(have H2_:=(Option.bind_some _ _).symm.trans H;rw [hy147];with_reducible exact H2_)|(have H2_:=(Option.bind_some _ _).symm.trans H;with_reducible exact H2_)|with_reducible exact H|(rw [hy147];exact H)|exact H
         have Ny147:=z0 hy147
         clear hy147
         have H':=z0 H
         clear H
         try go_wp2_with (first|(refine zc 13 rfl Tryz.func138 #[.string a0,.int .i64 x5_1] ?_;refine za (bY.calls k1 a0 x5_1 t141 _ A2.out) fun nd=> ?_)|(refine zc 60 rfl Tryz.func139 #[.string a0,.int .i64 x5_1,.bool x6_1] ?_;(with_reducible refine (aJ.calls k1 a0 x5_1 x6_1 t145 t146 _ A22.out).mono ?_);rintro e w30 ⟨rfl,hb⟩;refine ⟨_,rfl,?_⟩;have n0_:=z0 (Kd.dn (by (with_reducible repeat (first|apply Kd.dP|apply Kd.dS|apply Kd.fU));exact HO_3.out) hb);have n1_:=z0 (ak zw hb);revert n0_ n1_;clear HO_3 HB;intro HO_3 HB;(try clear hb);(try clear hk);(try clear hi)))
         have n0_:=z0 (Kd.fU HO_3.out)
         have n1_:=z0 (fE HB.out)
         clear HO_3 HB
         have HO_3:=n0_
         have HB:=n1_
         clear n0_ n1_
         refine DF (n:=15) (S:=fun w'=>True) (ds:=[]) #[false,false,false,false,false,false,false,false,false,false,false,false,false,false,false] zf rfl rfl trivial (fun hHeld=> ?_);refine Fb aI.MZ aI.L9 (fun HT_ HW_=> ?_)
         generalize w30.drew=w31 at HO_3 HB hHeld ⊢
         refine jT (i:=0) (N:=some 63) (v:= ?_) (a':= ?_) #[true,false,false,false,false,false,false,false,false,false,false,false,false,false,false] rfl rfl (lI HT_.out zf) (fun _ _ _ h=>h) (Or.inl ⟨by rfl,?_⟩) ?_ ?_
         rotate_left
         · intro w'
           go_simp
           with_reducible rfl
         rotate_left
         · simp only [Act.put,List.setIfInBounds_toArray,List.set_cons_zero,List.set_cons_succ,dZ,fG]
           rfl
         refine jT (i:=1) (N:=some 64) (v:= ?_) (a':= ?_) #[true,true,false,false,false,false,false,false,false,false,false,false,false,false,false] rfl rfl (lI HT_.out zf) (fun _ _ _ h=>h) (Or.inl ⟨by rfl,?_⟩) ?_ ?_
         rotate_left
         · intro w'
           go_simp
           with_reducible rfl
         rotate_left
         · simp only [Act.put,List.setIfInBounds_toArray,List.set_cons_zero,List.set_cons_succ,dZ,fG]
           rfl
         refine jT (i:=2) (N:=some 65) (v:= ?_) (a':= ?_) #[true,true,true,false,false,false,false,false,false,false,false,false,false,false,false] rfl rfl (lI HT_.out zf) (fun _ _ _ h=>h) (Or.inl ⟨by rfl,?_⟩) ?_ ?_
         rotate_left
         · intro w'
           go_simp
           with_reducible rfl
         rotate_left
         · simp only [Act.put,List.setIfInBounds_toArray,List.set_cons_zero,List.set_cons_succ,dZ,fG]
           rfl
         refine jT (i:=3) (N:=some 66) (v:= ?_) (a':= ?_) #[true,true,true,true,false,false,false,false,false,false,false,false,false,false,false] rfl rfl (lI HT_.out zf) (fun _ _ _ h=>h) (Or.inl ⟨by rfl,?_⟩) ?_ ?_
         rotate_left
         · intro w'
           go_simp
           with_reducible rfl
         rotate_left
         · simp only [Act.put,List.setIfInBounds_toArray,List.set_cons_zero,List.set_cons_succ,dZ,fG]
           rfl
         refine jT (i:=4) (N:=some 67) (v:= ?_) (a':= ?_) #[true,true,true,true,true,false,false,false,false,false,false,false,false,false,false] rfl rfl (lI HT_.out zf) (fun _ _ _ h=>h) (Or.inl ⟨by rfl,?_⟩) ?_ ?_
         rotate_left
         · intro w'
           go_simp
           with_reducible rfl
         rotate_left
         · simp only [Act.put,List.setIfInBounds_toArray,List.set_cons_zero,List.set_cons_succ,dZ,fG]
           rfl
         refine jT (i:=5) (N:=some 68) (v:= ?_) (a':= ?_) #[true,true,true,true,true,true,false,false,false,false,false,false,false,false,false] rfl rfl (lI HT_.out zf) (fun _ _ _ h=>h) (Or.inl ⟨by rfl,?_⟩) ?_ ?_
         rotate_left
         · intro w'
           go_simp
           with_reducible rfl
         rotate_left
         · simp only [Act.put,List.setIfInBounds_toArray,List.set_cons_zero,List.set_cons_succ,dZ,fG]
           rfl
         refine jT (i:=6) (N:=some 69) (v:= ?_) (a':= ?_) #[true,true,true,true,true,true,true,false,false,false,false,false,false,false,false] rfl rfl (lI HT_.out zf) (fun _ _ _ h=>h) (Or.inl ⟨by rfl,?_⟩) ?_ ?_
         rotate_left
         · intro w'
           go_simp
           with_reducible rfl
         rotate_left
         · simp only [Act.put,List.setIfInBounds_toArray,List.set_cons_zero,List.set_cons_succ,dZ,fG]
           rfl
         refine jT (i:=7) (N:=some 70) (v:= ?_) (a':= ?_) #[true,true,true,true,true,true,true,true,false,false,false,false,false,false,false] rfl rfl (lI HT_.out zf) (fun _ _ _ h=>h) (Or.inl ⟨by rfl,?_⟩) ?_ ?_
         rotate_left
         · intro w'
           go_simp
           with_reducible rfl
         rotate_left
         · simp only [Act.put,List.setIfInBounds_toArray,List.set_cons_zero,List.set_cons_succ,dZ,fG]
           rfl
         refine jT (i:=8) (N:=some 71) (v:= ?_) (a':= ?_) #[true,true,true,true,true,true,true,true,true,false,false,false,false,false,false] rfl rfl (lI HT_.out zf) (fun _ _ _ h=>h) (Or.inl ⟨by rfl,?_⟩) ?_ ?_
         rotate_left
         · intro w'
           go_simp
           with_reducible rfl
         rotate_left
         · simp only [Act.put,List.setIfInBounds_toArray,List.set_cons_zero,List.set_cons_succ,dZ,fG]
           rfl
         refine jT (i:=9) (N:=some 72) (v:= ?_) (a':= ?_) #[true,true,true,true,true,true,true,true,true,true,false,false,false,false,false] rfl rfl (lI HT_.out zf) (fun _ _ _ h=>h) (Or.inl ⟨by rfl,?_⟩) ?_ ?_
         rotate_left
         · intro w'
           go_simp
           with_reducible rfl
         rotate_left
         · simp only [Act.put,List.setIfInBounds_toArray,List.set_cons_zero,List.set_cons_succ,dZ,fG]
           rfl
         refine jT (i:=10) (N:=some 73) (v:= ?_) (a':= ?_) #[true,true,true,true,true,true,true,true,true,true,true,false,false,false,false] rfl rfl (lI HT_.out zf) (fun _ _ _ h=>h) (Or.inl ⟨by rfl,?_⟩) ?_ ?_
         rotate_left
         · intro w'
           go_simp
           with_reducible rfl
         rotate_left
         · simp only [Act.put,List.setIfInBounds_toArray,List.set_cons_zero,List.set_cons_succ,dZ,fG]
           rfl
         refine jT (i:=11) (N:=some 74) (v:= ?_) (a':= ?_) #[true,true,true,true,true,true,true,true,true,true,true,true,false,false,false] rfl rfl (lI HT_.out zf) (fun _ _ _ h=>h) (Or.inl ⟨by rfl,?_⟩) ?_ ?_
         rotate_left
         · intro w'
           go_simp
           with_reducible rfl
         rotate_left
         · simp only [Act.put,List.setIfInBounds_toArray,List.set_cons_zero,List.set_cons_succ,dZ,fG]
           rfl
         refine F9 (i:=12) (N:=some 75) #[true,true,true,true,true,true,true,true,true,true,true,true,true,false,false] rfl rfl (Ij HT_.out zf) (by decide) (fun K hK=> ?_)
         refine Ld (w1:= ?_) (v:= ?_) (by rfl) rfl ?_ ?_
         rotate_left 2
         · go_simp
           constructor
           · rfl
           · rfl
         refine hK.out _ _ trivial (fun hHeld=> ?_)
         clear hK K
         refine zu (a':= ?_) ?_ ?_
         rotate_left
         · show Act.put _ (some 75) _=_
           simp only [Act.put,List.setIfInBounds_toArray,List.set_cons_zero,List.set_cons_succ,dZ,fG]
           rfl
         refine F9 (i:=13) (N:=some 76) #[true,true,true,true,true,true,true,true,true,true,true,true,true,true,false] rfl rfl (Ij HT_.out zf) (by decide) (fun K hK=> ?_)
         refine Kd.nK k95 (w0:=w) w.heap.size (by rfl) (.tmp 63) (.tmp 75) 52 95 (.agg #[(.int .i64 0),(.string ⟨#[]⟩),(.string ⟨#[]⟩),(.int .i64 0)]) 48 rfl Tryz.underlying52 nD rfl (by decide) (by omega) u3 x3_1 (⟨t145,a0.extract (x4_1:Int).toNat (x5_1:Int).toNat,a0.extract (x5_1:Int).toNat (t146:Int).toNat,x5_1⟩:S95) [.int .i64 t145,.string (a0.extract (x4_1:Int).toNat (x5_1:Int).toNat),.string (a0.extract (x5_1:Int).toNat (t146:Int).toNat),.int .i64 x5_1] (fun _=>True) (fun _=>False) rfl rfl ?aP (fun _ hk=>hk.elim) ?aF ?aO ?aB ?aS ?aL ?_
         (case aP=>exact EJ _ _ _ (⟨t145,a0.extract (x4_1:Int).toNat (x5_1:Int).toNat,a0.extract (x5_1:Int).toNat (t146:Int).toNat,x5_1⟩:S95))
         (case aB=>exact zw)
         (case aF=>exact (fun _ _=>trivial))
         (case aO=>exact (by (with_reducible repeat (first|apply Kd.dP|apply Kd.dS|apply Kd.fU));exact HO_3.out))
         (case aS=>exact (aQ zw))
         (case aL=>have:=LMc29.out;omega)
         intro v148 w32 ho hb hg hat
         rw [←Ny147.out] at ho
         have n0_:=z0 (hb)
         have n1_:=z0 (ho)
         clear HB HO_3
         have HB:=n0_
         have HO149:=n1_
         clear n0_ n1_
         clear ho hb hg hat
         refine hK.out _ _ trivial (fun hHeld=> ?_)
         clear hK K
         refine zu (a':= ?_) ?_ ?_
         rotate_left
         · show Act.put _ (some 76) _=_
           simp only [Act.put,List.setIfInBounds_toArray,List.set_cons_zero,List.set_cons_succ,dZ,fG]
           rfl
         refine jT (i:=14) (N:=some 3) (v:= ?_) (a':= ?_) #[true,true,true,true,true,true,true,true,true,true,true,true,true,true,true] rfl rfl (lI HT_.out zf) (fun _ _ _ h=>h) (Or.inl ⟨by rfl,?_⟩) ?_ ?_
         rotate_left
         · intro w'
           go_simp
           with_reducible rfl
         rotate_left
         · simp only [Act.put,List.setIfInBounds_toArray,List.set_cons_zero,List.set_cons_succ,dZ,fG]
           rfl
         refine IX (Kr HT_.out zf) ?_
         try go_wp2
         go_roundg k1
         case measure=>have:=HK1.out;omega
         case rel=>exact ⟨(y147),(t146),(t146),(false),zr,zr,zr,H',⟨by have:=HK1.out;omega⟩,⟨by (with_reducible repeat (first|apply Kd.dP|apply Kd.dS|apply Kd.fU));exact HO149.out⟩,⟨zw⟩⟩
       · rw [if_neg c29] at H
         cases H
def iK.f (k:Nat)(a0:ByteArray):Option ((List (S95)) × Int):=if (a0.size:Int)>200000 then (some (([]:List (S95)),2)) else ((aI.f k a0).bind fun t150=>(if (t150.length:Int)>40000 then (some (([]:List (S95)),2)) else (some (t150,0))))
theorem iK.calls (k:Nat)(a0:ByteArray)(r1:List (S95))(r2:Int)(w:World)(h:iK.f k a0=some (r1,r2)):
 Calls Tryz.prog 46 #[.string a0] w fun e w'=>∃v0_:Value,e= .returned (.tuple #[v0_,.int .i64 r2])∧Kd.R k95 95 w' w.heap.size (fun _=>True) v0_ r1∧Below w.heap.size w w':=by
 have HB:=z0 (Below.refl w.heap.size w)
 have H:=h
 clear h
 unfold iK.f at H
 by_cases c2:(a0.size:Int)>200000
 · rw [if_pos c2] at H
   have c2b0:decide (200000<(a0.size:Int))=true:=decide_eq_true c2
   have c2b1:decide (200000<a0.size)=true:=decide_eq_true (by omega)
   clear c2
   simp only [Option.some.injEq,Prod.mk.injEq] at H
   obtain ⟨rfl,rfl⟩:=H
   go_enter Tryz.func46,Tryz.ntmps46
   go_wp2
   go_ret2
   exact ⟨_,zv,by first|exact Kd.gQ _ _ _ _ _|exact Kd.N_nil _ _ _ _ _|exact Kd.V_nil _ _ _ _ _|exact Kd.Q_nil _ _ _ _ _|exact Kd.uS _ _ _ _ _,zw⟩
 · rw [if_neg c2] at H
   have c2b0:decide (200000<(a0.size:Int))=false:=decide_eq_false c2
   have c2b1:decide (200000<a0.size)=false:=decide_eq_false (by omega)
   clear c2
   replace H:=zo H
   obtain ⟨t150,A3,H⟩:=H
   (try dsimp only at H)
   by_cases c4:(t150.length:Int)>40000
   · rw [if_pos c4] at H
     have c4b0:decide (40000<(t150.length:Int))=true:=decide_eq_true c4
     have c4b1:decide (40000<t150.length)=true:=decide_eq_true (by omega)
     clear c4
     simp only [Option.some.injEq,Prod.mk.injEq] at H
     obtain ⟨rfl,rfl⟩:=H
     go_enter Tryz.func46,Tryz.ntmps46
     go_wp2_with (first|(refine zc 9 rfl Tryz.func81 #[.string a0] ?_;(with_reducible refine (aI.calls k a0 t150 _ A3.out).mono ?_);rintro e w5 ⟨v151,rfl,ho0,hb⟩;refine ⟨_,rfl,?_⟩;have n0_:=z0 (Kd.fZ ho0 (aQ zw));have n1_:=z0 (ak zw hb);revert n0_ n1_;clear HB;intro HO152 HB;(try clear hb);(try clear hk);(try clear hi);(try clear ho0);obtain ⟨Ao6,co6,eo6⟩:=Kd.bF HO152.out;subst eo6))
     go_ret2
     exact ⟨_,zv,by first|exact Kd.gQ _ _ _ _ _|exact Kd.N_nil _ _ _ _ _|exact Kd.V_nil _ _ _ _ _|exact Kd.Q_nil _ _ _ _ _|exact Kd.uS _ _ _ _ _,zw⟩
   · rw [if_neg c4] at H
     have c4b0:decide (40000<(t150.length:Int))=false:=decide_eq_false c4
     have c4b1:decide (40000<t150.length)=false:=decide_eq_false (by omega)
     clear c4
     simp only [Option.some.injEq,Prod.mk.injEq] at H
     obtain ⟨rfl,rfl⟩:=H
     go_enter Tryz.func46,Tryz.ntmps46
     go_wp2_with (first|(refine zc 9 rfl Tryz.func81 #[.string a0] ?_;(with_reducible refine (aI.calls k a0 t150 _ A3.out).mono ?_);rintro e w7 ⟨v151,rfl,ho0,hb⟩;refine ⟨_,rfl,?_⟩;have n0_:=z0 (Kd.fZ ho0 (aQ zw));have n1_:=z0 (ak zw hb);revert n0_ n1_;clear HB;intro HO152 HB;(try clear hb);(try clear hk);(try clear hi);(try clear ho0);obtain ⟨Ao8,co8,eo8⟩:=Kd.bF HO152.out;subst eo8))
     go_ret2
     exact ⟨_,zv,by (with_reducible repeat (first|apply Kd.dP|apply Kd.dS|apply Kd.fU));exact HO152.out,zw⟩
end Go.Proofs.YtolaiebjmhieiaaGreatDoor.ORef
end
section
namespace Go.Proofs.YtolaiebjmhieiaaGreatDoor.OScan
open Go.RowKit YtolaiebjmhieiaaGreatDoorW.PrintWords YtolaiebjmhieiaaGreatDoorW.PrintLast YtolaiebjmhieiaaGreatDoorW.PrintMore
open ORef
theorem wu (a:Int):dw.f a=some (isL a):=qQ a
theorem vw (a:Int):dB.f a=some (isD a):=qR a
theorem rO (s:ByteArray)(i:Int)(h:0≤i):bM.f s i=some (nx s i):=by
 unfold bM.f nx
 rw [if_neg (by omega)]
 by_cases h1:i≥(s.size:Int)
 · rw [if_pos h1,if_pos h1]
 · rw [if_neg h1,if_neg h1,if_pos h,if_pos (by omega)]
theorem wE {a b:List UInt8}(h:b.isPrefixOf a=true):b.length≤a.length:=(List.isPrefixOf_iff_prefix.1 h).length_le
theorem rP (s:ByteArray)(i:Int)(t:ByteArray)(hs:s.size≤1000000)(ht:t.size≤1000000)(h0:0≤i)(h1:i≤s.size):cO.f s i t=some (t.data.toList.isPrefixOf (sfx s i)):=by
 have hl:=kH s i
 have htl:t.data.toList.length=t.size:=rfl
 unfold cO.f
 rw [wr (a:=(s.size:Int)-i) (by omega) (by omega),wr (a:=i+(t.size:Int)) (by omega) (by omega)]
 by_cases h:(s.size:Int)-i≥t.size
 · rw [if_pos h,if_pos h0,if_pos (by omega),if_pos (by omega),kK s i t.size h0]
   simp only [Option.some.injEq]
   rw [Lib.toList_data,Lib.toList_data,Bool.eq_iff_iff,List.isPrefixOf_iff_prefix,beq_iff_eq,List.prefix_iff_eq_take]
   have:(bA ((sfx s i).take t.size)).data.toList=(sfx s i).take t.size:=by unfold bA;simp
   rw [this,htl]
   exact ⟨fun h=>h.symm,fun h=>h.symm⟩
 · rw [if_neg h]
   simp only [Option.some.injEq]
   rw [eq_comm,Bool.eq_false_iff]
   intro hp
   have:=wE hp
   omega
theorem rM (s:ByteArray)(hs:s.size≤1000000):∀(d k:Nat) (i:Int),0≤i→i≤s.size→(s.size:Int)-i≤d→d<k→bG.l0 k s i=some (i+iD (fun x=>x !=10) (sfx s i))
 |d,0,_,_,_,_,h=>by omega
 |d,k+1,i,h0,h1,hd_,hk=>by
  rw [bG.l0]
  by_cases hp:i<s.size
  · obtain ⟨d',rfl⟩:∃d',d=d'+1:=⟨d-1,by omega⟩
    have ih:=rM s hs d' k (i+1) (by omega) (by omega) (by omega) (by omega)
    obtain ⟨b,e1,e2,_⟩:=gX s i h0 hp
    have y10:((b.toNat:Int)=10)↔b=10:=gK b 10 (by decide)
    rw [if_pos hp,if_pos h0,e1,e2,wr (by omega) (by omega),ih,iD]
    by_cases q:b=10
    · rw [if_pos (y10.2 q),if_neg (by simp [q])];simp
    · rw [if_neg (fun h=>q (y10.1 h)),if_pos (by simp [q])]
      simp only [Option.some.injEq]
      omega
  · rw [if_neg hp,iE s i (by omega)]
    simp [iD]
theorem rJ (s:ByteArray)(hs:s.size≤1000000):∀(d k:Nat) (i:Int),0≤i→i≤s.size→(s.size:Int)-i≤d→d<k→bG.l1 k s i=some (if Lib.index (sfx s i) [42,47]<0 then (s.size:Int) else i+Lib.index (sfx s i) [42,47]+2)
 |d,0,_,_,_,_,h=>by omega
 |d,k+1,i,h0,h1,hd_,hk=>by
  rw [bG.l1]
  by_cases hp:i<s.size
  · obtain ⟨d',rfl⟩:∃d',d=d'+1:=⟨d-1,by omega⟩
    have ih:=rJ s hs d' k (i+1) (by omega) (by omega) (by omega) (by omega)
    obtain ⟨b,e1,e2,_⟩:=gX s i h0 hp
    rw [if_pos hp,rP s i ⟨#[42,47]⟩ hs (by decide) h0 h1,wr (a:=i+2) (by omega) (by omega),wr (a:=i+1) (by omega) (by omega),ih]
    have e42:(⟨#[42,47]⟩:ByteArray).data.toList=[42,47]:=rfl
    simp only [Option.bind_some,e1]
    have hI:Lib.index (b::sfx s (i+1)) [42,47]=if [42,47].isPrefixOf (b::sfx s (i+1))=true then 0 else if (Lib.index (sfx s (i+1)) [42,47]== -1)=true then-1 else Lib.index (sfx s (i+1)) [42,47]+1:=rfl
    rw [hI]
    have hg:=Lib.index_ge (sfx s (i+1)) [42,47]
    generalize Lib.index (sfx s (i+1)) [42,47]=t at *
    by_cases q:[42,47].isPrefixOf (b::sfx s (i+1))=true
    · rw [if_pos q,if_pos q,if_neg (by decide)]
      simp
    · rw [if_neg q,if_neg q]
      by_cases q2:t= -1
      · subst q2;simp
      · rw [if_neg (show ¬(t== -1)=true by simpa using q2),if_neg (by omega),if_neg (by omega)]
        simp only [Option.some.injEq]
        omega
  · rw [if_neg hp,iE s i (by omega)]
    rfl
theorem FU (s:ByteArray)(i:Int)(c:Bool)(hs:s.size≤1000000)(h0:0≤i)(h1:i≤s.size)(k:Nat)(hk:s.size<k):bG.f k s i=some (i+(match qX c (sfx s i) with|none=>0|some r=>r.1)):=by
 have hl:=kH s i
 unfold bG.f qX
 rw [rP s i ⟨#[47,47]⟩ hs (by decide) h0 h1,rP s i ⟨#[47,42]⟩ hs (by decide) h0 h1]
 simp only [Option.bind_some]
 by_cases q1:[47,47].isPrefixOf (sfx s i)=true
 · rw [if_pos q1,if_pos q1,rM s hs s.size k i h0 h1 (by omega) hk]
 · rw [if_neg q1,if_neg q1]
   by_cases q2:[47,42].isPrefixOf (sfx s i)=true
   · have hle:=wE q2
     simp only [List.length_cons,List.length_nil] at hle
     have hd2:sfx s (i+2)=(sfx s i).drop 2:=mM s i 2 h0
     rw [if_pos q2,if_pos q2,wr (by omega) (by omega),rJ s hs s.size k (i+2) (by omega) (by omega) (by omega) hk,hd2]
     simp only
     unfold yh
     by_cases q3:Lib.index ((sfx s i).drop 2) [42,47]<0
     · rw [if_pos q3,if_pos q3]
       simp only [Option.some.injEq]
       omega
     · rw [if_neg q3,if_neg q3]
       simp only [Option.some.injEq]
       omega
   · rw [if_neg q2,if_neg q2]
     simp
theorem JG (s:ByteArray)(i:Int)(c:Bool)(hs:s.size≤1000000)(h0:0≤i)(h1:i≤s.size)(k:Nat)(hk:s.size+1<k):bY.f k s i=some (i+(match iL (sfx s i) c with|none=>0|some r=>r.1)):=by
 obtain ⟨k,rfl⟩:∃m,k=m+1:=⟨k-1,by omega⟩
 have hcm:=FU s i c hs h0 h1 k (by omega)
 have w1:=wr (a:=i+1) (by omega) (by omega)
 have w2:=wr (a:=i+2) (by omega) (by omega)
 have w3:=wr (a:=i+3) (by omega) (by omega)
 have hx1:nx s (i+1)=hd (sfx s (i+1)):=zh s _ (by omega)
 have hx2:nx s (i+2)=hd (sfx s (i+1)).tail:=by
  rw [zh s _ (by omega),show i+2=i+1+1 by omega,BK s _ (by omega)]
 unfold bY.f
 rw [rO s i h0]
 simp only [Option.bind_some,bY.j0,w1,w2,w3,rO s (i+1) (by omega),rO s (i+2) (by omega),hx1,hx2,hcm]
 by_cases hp:i<s.size
 · obtain ⟨b,e1,e2,e3⟩:=gX s i h0 hp
   rw [e1,e3,iL]
   have y10:((b.toNat:Int)=10)↔b=10:=gK b 10 (by decide)
   have y32:((b.toNat:Int)=32)↔b=32:=gK b 32 (by decide)
   have y9:((b.toNat:Int)=9)↔b=9:=gK b 9 (by decide)
   have y11:((b.toNat:Int)=11)↔b=11:=gK b 11 (by decide)
   have y12:((b.toNat:Int)=12)↔b=12:=gK b 12 (by decide)
   have y13:((b.toNat:Int)=13)↔b=13:=gK b 13 (by decide)
   have y92:((b.toNat:Int)=92)↔b=92:=gK b 92 (by decide)
   simp only [y10,y32,y9,y11,y12,y92,beq_iff_eq,y13]
   by_cases q10:b=10
   · subst q10;simp
   by_cases q32:b=32
   · subst q32;simp
   by_cases q9:b=9
   · subst q9;simp
   by_cases q11:b=11
   · subst q11;simp
   by_cases q12:b=12
   · subst q12;simp
   by_cases q13:b=13
   · subst q13;simp
   simp only [q10,q32,q9,q11,q12,q13,if_false,false_or]
   by_cases q92:b=92
   · simp only [q92,if_true,true_and]
     by_cases q1:hd (sfx s (i+1))=10
     · simp [q1]
     · by_cases q2:hd (sfx s (i+1))=13
       · by_cases q3:hd (sfx s (i+1)).tail=10
         · simp [q2,q3]
         · simp [q2,q3,qX]
       · simp [q1,q2,qX]
   · simp only [q92,if_false,false_and]
 · rw [jX s i (by omega),iE s i (by omega)]
   simp [iL,qX]
theorem uG (s:ByteArray)(hs:s.size≤1000000):∀(d k:Nat) (x:Int) (p:UInt8),1≤x→x≤s.size→bt s (x-1)=p.toNat→(s.size:Int)-x≤d→2*d<k→aU.l0 k s x=some (x+pq p (sfx s x))
 |d,0,_,_,_,_,_,_,h=>by omega
 |d,k+1,x,p,h0,h1,hp0,hd_,hk=>by
  rw [aU.l0]
  by_cases hp:x<s.size
  · obtain ⟨d',rfl⟩:∃d',d=d'+1:=⟨d-1,by omega⟩
    obtain ⟨k,rfl⟩:∃m,k=m+1:=⟨k-1,by omega⟩
    obtain ⟨b,e1,e2,_⟩:=gX s x (by omega) hp
    have ih:=uG s hs d' k (x+1) b (by omega) (by omega) (by rw [show x+1-1=x by omega];exact e2) (by omega) (by omega)
    have j:∀x7:Bool,x7=decide ((b=43∨b=45)∧(p=101∨p=69))→aU.j1 (k+1) s x b.toNat x7=some (x+pq p (b::sfx s (x+1))):=fun x7 hx7=>by
     rw [aU.j1,wu,vw,wr (by omega) (by omega),ih,pq]
     simp only [Option.bind_some]
     have y46:((b.toNat:Int)=46)↔b=46:=gK b 46 (by decide)
     simp only [y46]
     have e:some (x+1+(pq b (sfx s (x+1)):Int))=some (x+((pq b (sfx s (x+1))+1:Nat):Int)):=by
      simp only [Option.some.injEq];omega
     rw [e]
     unfold qp qw
     by_cases q1:isL (b.toNat:Int)=true
     · simp [q1]
     by_cases q2:isD (b.toNat:Int)=true
     · simp [q1,q2]
     by_cases q3:b=46
     · rw [if_neg q1,if_neg q2,if_pos q3,if_pos (.inr (.inr (.inl q3)))]
     rw [if_neg q1,if_neg q2,if_neg q3]
     by_cases q4:(b=43∨b=45)∧(p=101∨p=69)
     · rw [if_pos (by rw [hx7];simpa using q4),if_pos (.inr (.inr (.inr q4)))]
     · rw [if_neg (by rw [hx7];simpa using q4),if_neg (fun h=>by
        rcases h with h|h|h|h
        · exact q1 h
        · exact q2 h
        · exact q3 h
        · exact q4 h)]
       simp
    have y43:((b.toNat:Int)=43)↔b=43:=gK b 43 (by decide)
    have y45:((b.toNat:Int)=45)↔b=45:=gK b 45 (by decide)
    have y101:((p.toNat:Int)=101)↔p=101:=gK p 101 (by decide)
    have y69:((p.toNat:Int)=69)↔p=69:=gK p 69 (by decide)
    have c1:(0:Int)≤x-1:=by omega
    have c2:x-1<(s.size:Int):=by omega
    rw [if_pos hp,if_pos (by omega),e1,e2,wr (a:=x-1) (by omega) (by omega),hp0]
    simp only [y43,y45,y101,if_pos c1,if_pos c2]
    by_cases q4:b=43
    · rw [if_pos q4]
      by_cases q6:p=101
      · rw [if_pos q6];exact j _ (by simp [q4,q6])
      · rw [if_neg q6];exact j _ (by rw [Bool.eq_iff_iff];simp [q4,q6,y69])
    · rw [if_neg q4]
      by_cases q5:b=45
      · rw [if_pos q5]
        by_cases q6:p=101
        · rw [if_pos q6];exact j _ (by simp [q5,q6])
        · rw [if_neg q6];exact j _ (by rw [Bool.eq_iff_iff];simp [q5,q6,y69])
      · rw [if_neg q5];exact j _ (by simp [q4,q5])
  · rw [if_neg hp,iE s x (by omega)]
    simp [pq]
theorem Hz (s:ByteArray)(i:Int)(hs:s.size≤1000000)(h0:0≤i)(h1:i<s.size)(b:UInt8)(hb:bt s i=b.toNat)(k:Nat)(hk:2*s.size<k):aU.f k s i=some (i+((pq b (sfx s (i+1))+1:Nat):Int)):=by
 unfold aU.f
 rw [wr (by omega) (by omega),uG s hs s.size k (i+1) b (by omega) (by omega) (by rw [show i+1-1=i by omega];exact hb) (by omega) hk]
 simp only [Option.some.injEq]
 omega
theorem o7 (s:ByteArray)(i:Int)(q:UInt8)(hs:s.size≤1000000)(h0:0≤i)(h1:i<s.size)(hq:bt s i=q.toNat)(hq10:q≠10):∀(d k:Nat) (x:Int),i≤x→x≤s.size+1→(s.size:Int)-x≤d→2*d+1<k→bg.l0 k s i x=some (match qM q (sfx s x) with|none=>i|some m=>x+m)
 |d,0,_,_,_,_,h=>by omega
 |d,k+1,x,hx0,hx1,hd_,hk=>by
  obtain ⟨k,rfl⟩:∃m,k=m+1:=⟨k-1,by omega⟩
  rw [bg.l0]
  by_cases hp:x<s.size
  · obtain ⟨d',rfl⟩:∃d',d=d'+1:=⟨d-1,by omega⟩
    obtain ⟨b,e1,e2,_⟩:=gX s x (by omega) hp
    have ih1:=o7 s i q hs h0 h1 hq hq10 d' k (x+1) (by omega) (by omega) (by omega) (by omega)
    have ih2:=o7 s i q hs h0 h1 hq hq10 d' k (x+1+1) (by omega) (by omega) (by omega) (by omega)
    have y10:((b.toNat:Int)=10)↔b=10:=gK b 10 (by decide)
    have y92:((b.toNat:Int)=92)↔b=92:=gK b 92 (by decide)
    have yq:((b.toNat:Int)=(q.toNat:Int))↔b=q:=by
     constructor
     · intro h;exact UInt8.toNat_inj.1 (by omega)
     · rintro rfl;rfl
    rw [if_pos hp,if_pos (by omega),bg.j1,e1,e2,qM.eq_def]
    dsimp only
    by_cases q2:b=10
    · rw [if_neg (by simp [q2]),if_neg (by rw [q2];exact fun h=>hq10 h.symm),if_pos q2]
    · rw [if_pos (by simpa using fun h=>q2 (y10.1 h)),if_pos (by omega),if_pos hp,if_pos h0,if_pos h1,hq,wr (a:=x+1) (by omega) (by omega),wr (a:=x+1+1) (by omega) (by omega)]
      simp only [yq,y92]
      by_cases q1:b=q
      · rw [if_pos q1,if_pos q1]
        simp
      · rw [if_neg q1,if_neg q1,if_neg q2]
        by_cases q3:b=92
        · rw [if_pos q3,if_pos q3]
          by_cases hp2:x+1<s.size
          · obtain ⟨b2,e4,e5,_⟩:=gX s (x+1) (by omega) hp2
            have y10':((b2.toNat:Int)=10)↔b2=10:=gK b2 10 (by decide)
            rw [if_pos hp2,if_pos (by omega),e4,e5]
            simp only [y10']
            by_cases q4:b2=10
            · rw [if_pos q4,if_pos q4]
            · rw [if_neg q4,if_neg q4,ih2]
              cases qM q (sfx s (x+1+1)) with
              |none=>rfl
              |some m=>
               show some (x+1+1+(m:Int))=some (x+((m+2:Nat):Int))
               rw [show x+1+1+(m:Int)=x+((m+2:Nat):Int) by omega]
          · rw [if_neg hp2,ih2,iE s (x+1) (by omega),iE s (x+1+1) (by omega)]
            simp [qM]
        · rw [if_neg q3,if_neg q3,ih1]
          cases qM q (sfx s (x+1)) with
          |none=>rfl
          |some m=>
           show some (x+1+(m:Int))=some (x+((m+1:Nat):Int))
           rw [show x+1+(m:Int)=x+((m+1:Nat):Int) by omega]
  · rw [if_neg hp,bg.j1,if_neg (by decide),iE s x (by omega)]
    rfl
theorem Hy (s:ByteArray)(i:Int)(q:UInt8)(hs:s.size≤1000000)(h0:0≤i)(h1:i<s.size)(hq:bt s i=q.toNat)(hq10:q≠10)(k:Nat)(hk:2*s.size+1<k):bg.f k s i=some (i+iC q (q::sfx s (i+1))):=by
 unfold bg.f
 rw [wr (by omega) (by omega),o7 s i q hs h0 h1 hq hq10 s.size k (i+1) (by omega) (by omega) (by omega) hk,iC,if_pos rfl]
 cases qM q (sfx s (i+1)) with
 |none=>simp
 |some m=>
  simp only [Option.some.injEq]
  omega
theorem BX (xs:List ByteArray)(a:ByteArray)(hl:xs.length≤1000000):∀(d k i:Nat),i≤xs.length→xs.length-i≤d→d<k→a∉xs.take i→
 ∃r,bH.l0 k xs a (i:Int)=some r∧((r= -1∧a∉xs)∨(0≤r∧a∈xs))
 |d,0,i,_,_,hk,_=>by omega
 |d,k+1,i,h1,hd,hk,hn=>by
  rw [bH.l0]
  by_cases h:i<xs.length
  · rw [if_pos (by omega),if_pos (by omega)]
    have hrd:jv ByteArray.empty xs (i:Int)=xs[i]:=by
     show xs.getD (i:Int).toNat ByteArray.empty=_
     rw [List.getD_eq_getElem?_getD,show (i:Int).toNat=i from rfl,List.getElem?_eq_getElem h];rfl
    rw [hrd]
    by_cases he:xs[i].toList=a.toList
    · rw [if_pos he]
      have he':xs[i]=a:=Go.WideShapes.bytes_inj (by rw [ByteArray.toList_eq,ByteArray.toList_eq] at he;exact he)
      exact ⟨i,rfl,.inr ⟨by omega,by rw [←he'];exact List.getElem_mem h⟩⟩
    · rw [if_neg he,wr (by omega) (by omega)]
      cases d with
      |zero=>omega
      |succ d=>
       have hn':a∉xs.take (i+1):=fun hm=>by
        rw [List.take_add_one,List.getElem?_eq_getElem h] at hm
        rcases List.mem_append.1 hm with hm|hm
        · exact hn hm
        · have hm':a=xs[i]:=by simpa using hm
          exact he (by rw [hm'])
       exact BX xs a hl d k (i+1) (by omega) (by omega) (by omega) hn'
  · rw [if_neg (by omega)]
    have:xs.take i=xs:=List.take_of_length_le (by omega)
    rw [this] at hn
    exact ⟨-1,rfl,.inl ⟨rfl,hn⟩⟩
theorem Nb (xs:List ByteArray)(a:ByteArray)(hl:xs.length≤1000000)(k:Nat)(hk:xs.length<k):∃r,bH.f k xs a=some r∧((r= -1∧a∉xs)∨(0≤r∧a∈xs)):=
 BX xs a hl xs.length k 0 (Nat.zero_le _) (by omega) hk (by simp)
theorem su (xs:List ByteArray)(a:ByteArray):xs.contains a=true↔a∈xs:=by
 rw [List.contains_iff_exists_mem_beq]
 constructor
 · rintro ⟨b,hb,e⟩
   rw [(MapKept.bytes_beq _ _).1 e];exact hb
 · intro h;exact ⟨a,h,(MapKept.bytes_beq _ _).2 rfl⟩
theorem LG:iq.f=some kwL:=by kernel_rfl
theorem JK:iI.f=some sgL:=by kernel_rfl
theorem EI:kwL.length=28:=by kernel_rfl
theorem pR:sgL.length=47:=by kernel_rfl
theorem yO (s:ByteArray)(i:Int)(hs:s.size≤1000000)(h0:0≤i):∀(d k:Nat) (x:Int),i≤x→x≤s.size→(s.size:Int)-x≤d→d+40<k→bQ.l0 k s i x=some (eU kwL 1 (s.extract i.toNat (x+iD wdU (sfx s x)).toNat),x+iD wdU (sfx s x))
 |d,0,_,_,_,_,h=>by omega
 |d,k+1,x,hx0,hx1,hd_,hk=>by
  have j:x+iD wdU (sfx s x)=x→bQ.j1 k s i x=some (eU kwL 1 (s.extract i.toNat (x+iD wdU (sfx s x)).toNat),x+iD wdU (sfx s x)):=fun hz=>by
   obtain ⟨k,rfl⟩:∃m,k=m+1:=⟨k-1,by omega⟩
   rw [bQ.j1,LG,hz]
   simp only [Option.bind_some]
   rw [if_pos h0,if_pos hx0,if_pos hx1]
   obtain ⟨r,hr,hc⟩:=Nb kwL (s.extract i.toNat x.toNat) (by rw [EI];omega) k (by rw [EI];omega)
   rw [hr]
   simp only [Option.bind_some]
   unfold eU
   rcases hc with ⟨rfl,hc⟩|⟨hr0,hc⟩
   · rw [if_neg (by decide),if_neg (fun h=>hc ((su _ _).1 h.2))]
   · rw [if_pos hr0,if_pos ⟨rfl,(su _ _).2 hc⟩]
  rw [bQ.l0]
  by_cases hp:x<s.size
  · obtain ⟨d',rfl⟩:∃d',d=d'+1:=⟨d-1,by omega⟩
    obtain ⟨b,e1,e2,_⟩:=gX s x (by omega) hp
    have ih:=yO s i hs h0 d' k (x+1) (by omega) (by omega) (by omega) (by omega)
    rw [if_pos hp,if_pos (by omega),e2,wu,vw,wr (by omega) (by omega),ih]
    simp only [Option.bind_some]
    have ew:wdU b=true→x+1+(iD wdU (sfx s (x+1)):Int)=x+(iD wdU (sfx s x):Int):=fun h=>by
     rw [e1,iD,if_pos h];omega
    by_cases q1:isL (b.toNat:Int)=true
    · rw [if_pos q1,ew (by unfold wdU qp;rw [q1];rfl)]
    · rw [if_neg q1]
      by_cases q2:isD (b.toNat:Int)=true
      · rw [if_pos q2,ew (by unfold wdU qw;rw [q2];simp)]
      · rw [if_neg q2]
        exact j (by rw [e1,iD,if_neg (by unfold wdU qp qw;simp [q1,q2])];simp)
  · rw [if_neg hp]
    exact j (by rw [iE s x (by omega)];simp [iD])
theorem yP (s:ByteArray)(i:Int)(hs:s.size≤1000000)(h0:0≤i)(h1:i≤s.size)(sg:List ByteArray)(hl:sg.length≤1000000)(hsz:∀t∈sg,t.size≤1000000):∀(d k:Nat) (best:ByteArray) (j:Int),0≤j→(sg.length:Int)-j≤d→d<k→∃t,dI.l0 k s i best sg j=some t∧t.size=(sg.drop j.toNat).foldl (stepS (sfx s i)) best.size
 |d,0,_,_,_,_,h=>by omega
 |d,k+1,best,j,hj,hd_,hk=>by
  rw [dI.l0]
  by_cases hp:j<sg.length
  · obtain ⟨d',rfl⟩:∃d',d=d'+1:=⟨d-1,by omega⟩
    have hjl:j.toNat<sg.length:=by omega
    have hrd:jv ByteArray.empty sg j=sg[j.toNat]:=by
     show sg.getD j.toNat ByteArray.empty=_
     rw [List.getD_eq_getElem?_getD,List.getElem?_eq_getElem hjl];rfl
    have hm:=List.getElem_mem hjl
    rw [if_pos hp,if_pos hj,hrd,List.drop_eq_getElem_cons hjl,List.foldl_cons]
    generalize sg[j.toNat]=t at *
    have e:(j+1).toNat=j.toNat+1:=by omega
    have ih:=fun best=>yP s i hs h0 h1 sg hl hsz d' k best (j+1) (by omega) (by omega) (by omega)
    rw [e] at ih
    rw [rP s i t hs (hsz t hm) h0 h1,wr (by omega) (by omega)]
    simp only [Option.bind_some]
    unfold stepS at ih ⊢
    by_cases q1:best.size<t.size
    · rw [if_pos (by omega)]
      by_cases q2:t.data.toList.isPrefixOf (sfx s i)=true
      · rw [if_pos q2,if_pos ⟨q1,q2⟩];exact ih t
      · rw [if_neg q2,if_neg (fun h=>q2 h.2)];exact ih best
    · rw [if_neg (by omega),if_neg (fun h=>q1 h.1)];exact ih best
  · rw [if_neg hp,List.drop_eq_nil_of_le (by omega)]
    exact ⟨best,rfl,rfl⟩
theorem yH:sgL.all (fun t=>decide (t.size≤3))=true:=by kernel_rfl
theorem Lr (s:ByteArray)(i:Int)(hs:s.size≤1000000)(h0:0≤i)(h1:i≤s.size)(k:Nat)(hk:50<k):∃t,dI.f k s i=some t∧t.size=lS sgL (sfx s i):=by
 unfold dI.f
 rw [JK]
 simp only [Option.bind_some]
 have:=yP s i hs h0 h1 sgL (by rw [pR];omega) (fun t ht=>by
  have:=List.all_eq_true.1 yH t ht
  have:=of_decide_eq_true this
  omega) 47 k ⟨#[]⟩ 0 (by omega) (by rw [pR];omega) (by omega)
 exact this
theorem Ea (s:ByteArray)(i:Int)(e:Nat)(h0:0≤i)(h:e<(sfx s i).length):bt s (i+e)=((sfx s i).getD e 0).toNat:=by
 have hl:=kH s i
 obtain ⟨b,e1,e2,_⟩:=gX s (i+e) (by omega) (by omega)
 rw [e2,List.getD_eq_getElem?_getD]
 have:(sfx s i)[e]? =some b:=by
  have h1:=congrArg (·[0]?) ((mM s i e h0).symm.trans e1)
  simpa using h1
 rw [this];rfl
theorem yQ (s:ByteArray)(i:Int)(hs:s.size≤1000000)(h0:0≤i)(h35:(sfx s i)[0]? =some 35):∀(d k e:Nat),e≤(sfx s i).length→(sfx s i).length-e≤d→d<k→dO.l0 k s i (i+(e:Int))=some (i+(e:Int)+((jG (sfx s i) e).1:Int)-(if (jG (sfx s i) e).2=true then 1 else 0))
 |d,0,_,_,_,h=>by omega
 |d,k+1,e,he,hd_,hk=>by
  have hl:=kH s i
  rw [dO.l0]
  by_cases hp:e<(sfx s i).length
  · obtain ⟨d',rfl⟩:∃d',d=d'+1:=⟨d-1,by omega⟩
    have ih:=yQ s i hs h0 h35 d' k (e+1) (by omega) (by omega) (by omega)
    obtain ⟨b,hb⟩:∃b,(sfx s i)[e]? =some b:=⟨_,List.getElem?_eq_getElem hp⟩
    have hbt:=Ea s i e h0 hp
    have hbg:(sfx s i).getD e 0=b:=by rw [List.getD_eq_getElem?_getD,hb];rfl
    rw [hbg] at hbt
    have hst:=lG (sfx s i) e b hb
    have y10:((b.toNat:Int)=10)↔b=10:=gK b 10 (by decide)
    have w1:=wr (a:=i+(e:Int)+1) (by omega) (by omega)
    have w2:=wr (a:=i+(e:Int)-1) (by omega) (by omega)
    have w3:=wr (a:=i+(e:Int)-2) (by omega) (by omega)
    rw [show i+((e+1:Nat):Int)=i+(e:Int)+1 by omega] at ih
    rw [if_pos (by omega),if_pos (by omega),hbt,w1,w2,w3,ih]
    have fin:some (i+(e:Int)+1+((jG (sfx s i) (e+1)).1:Int)-(if (jG (sfx s i) (e+1)).2=true then 1 else 0))=some (i+(e:Int)+(((jG (sfx s i) (e+1)).1+1:Nat):Int)-(if (jG (sfx s i) (e+1)).2=true then 1 else 0)):=by
     rw [show i+(e:Int)+1+((jG (sfx s i) (e+1)).1:Int)=i+(e:Int)+(((jG (sfx s i) (e+1)).1+1:Nat):Int) by omega]
    by_cases q:b=10
    · rw [if_pos (y10.2 q)]
      have he1:1≤e:=by
       by_cases hz:e=0
       · rw [hz,h35] at hb
         rw [q] at hb
         cases hb
       · omega
      have hp1:bt s (i+(e:Int)-1)=(pr1 (sfx s i) e).toNat:=by
       have:=Ea s i (e-1) h0 (by omega)
       rw [show i+((e-1:Nat):Int)=i+(e:Int)-1 by omega] at this
       rw [this]
       unfold pr1
       rw [if_neg (by omega)]
      have z92:∀p:UInt8,((p.toNat:Int)=92)↔p=92:=fun p=>gK p 92 (by decide)
      have z13:∀p:UInt8,((p.toNat:Int)=13)↔p=13:=fun p=>gK p 13 (by decide)
      rw [if_pos (by omega),if_pos (by omega),hp1]
      simp only [z92,z13]
      by_cases q1:pr1 (sfx s i) e=92
      · rw [if_neg (fun h=>h.2 (.inl q1))] at hst
        rw [if_pos q1,hst]
        exact fin
      · rw [if_neg q1]
        by_cases h2:2≤e
        · have hp2:bt s (i+(e:Int)-2)=(pr2 (sfx s i) e).toNat:=by
           have:=Ea s i (e-2) h0 (by omega)
           rw [show i+((e-2:Nat):Int)=i+(e:Int)-2 by omega] at this
           rw [this]
           unfold pr2
           rw [if_neg (by omega)]
          rw [if_pos (by omega),hp2]
          simp only [z92]
          by_cases q2:pr1 (sfx s i) e=13
          · rw [if_pos q2,if_pos (by omega),if_pos (by omega)]
            by_cases q3:pr2 (sfx s i) e=92
            · rw [if_neg (fun h=>h.2 (.inr ⟨q2,q3⟩))] at hst
              rw [if_pos q3,hst]
              exact fin
            · rw [if_pos ⟨q,fun h=>h.elim q1 fun h=>q3 h.2⟩,q2] at hst
              rw [if_neg q3,if_pos (by omega),hst]
              simp
          · rw [if_pos ⟨q,fun h=>h.elim q1 fun h=>q2 h.1⟩] at hst
            have hf:(pr1 (sfx s i) e==13)=false:=by simpa using q2
            rw [hf] at hst
            rw [if_neg q2,hst]
            simp
        · have e1:e=1:=by omega
          have h35':pr1 (sfx s i) e=35:=by
           unfold pr1
           rw [if_neg (by omega),e1,List.getD_eq_getElem?_getD,show 1-1=0 by rfl,h35];rfl
          rw [if_pos ⟨q,fun h=>h.elim q1 fun h=>by rw [h35'] at h;exact absurd h.1 (by decide)⟩,h35'] at hst
          rw [if_neg (by omega),if_neg (by omega),hst]
          simp
    · rw [if_neg (fun h=>q (y10.1 h))]
      rw [if_neg (fun h=>q h.1)] at hst
      rw [hst]
      exact fin
  · rw [if_neg (by omega),tV _ _ (by omega)]
    simp
theorem Iq:∀(l:List UInt8) (p2 p1:UInt8),p1≠13→(kW p2 p1 l).2=true→1≤(kW p2 p1 l).1
 |[],p2,p1,_,h=>by simp [kW] at h
 |b::l,p2,p1,h13,h=>by
  rw [kW] at h ⊢
  split at h
  · simp [h13] at h
  · rename_i hq
    rw [if_neg hq]
    simp
theorem DY (t:List UInt8):0<lq true (35::t)∧(lq true (35::t):Int)=((jG (35::t) 0).1:Int)-(if (jG (35::t) 0).2=true then 1 else 0):=by
 have hst:=lG (35::t) 0 35 rfl
 rw [if_neg (fun h=>absurd h.1 (by decide))] at hst
 have hA:jG (35::t) (0+1)=kW 0 35 t:=rfl
 have hcr:=Iq t 0 35 (by decide)
 rw [hA] at hst
 have hLL:lq true (35::t)=1+(kW 0 35 t).1-(if (kW 0 35 t).2=true then 1 else 0):=by
  rw [lq];simp
 rw [hLL,hst]
 generalize kW 0 35 t=r at *
 by_cases h:r.2=true
 · have:=hcr h
   rw [if_pos h,if_pos h];omega
 · rw [if_neg h,if_neg h];omega
theorem DJ:sgL.all (fun t=>match t.data.toList with|[]=>false|c::_=>c !=39&&c !=34)=true:=by kernel_rfl
theorem DK (l:List UInt8)(h:∀t∈sgL,t.data.toList.isPrefixOf l=false):lS sgL l=0:=by
 unfold lS
 generalize sgL=sg at *
 induction sg with
 |nil=>rfl
 |cons t sg ih=>
  rw [List.foldl_cons]
  have:stepS l 0 t=0:=by
   unfold stepS
   rw [if_neg (fun hh=>by rw [h t (List.mem_cons_self ..)] at hh;exact absurd hh.2 (by decide))]
  rw [this]
  exact ih (fun t' ht'=>h t' (List.mem_cons_of_mem _ ht'))
theorem BJ (b:UInt8)(l:List UInt8)(hb:b=39∨b=34):lS sgL (b::l)=0:=
 DK _ fun t ht=>by
  have:=List.all_eq_true.1 DJ t ht
  cases hq:t.data.toList with
  |nil=>rw [hq] at this;cases this
  |cons c u=>
   rw [hq] at this
   simp only [Bool.and_eq_true,bne_iff_ne,ne_eq] at this
   have hcb:(c==b)=false:=by
    rw [beq_eq_false_iff_ne]
    rcases hb with rfl|rfl
    · exact this.1
    · exact this.2
   simp [List.isPrefixOf,hcb]
theorem jW {kd:Int}(h:kd≠1)(t:ByteArray):eU kwL kd t=kd:=by
 unfold eU
 rw [if_neg (fun hh=>h hh.1)]
theorem EN (l:List UInt8)(B:Nat):∀(sg:List ByteArray) (n:Nat),n≤B→(∀t∈sg,t.size≤B)→sg.foldl (stepS l) n≤B
 |[],n,h,_=>h
 |t::sg,n,h,hs=>by
  rw [List.foldl_cons]
  refine EN l B sg _ ?_ (fun t' ht'=>hs t' (List.mem_cons_of_mem _ ht'))
  unfold stepS
  split
  · exact hs t (List.mem_cons_self ..)
  · exact h
theorem G8 (l:List UInt8):lS sgL l≤3:=
 EN l 3 sgL 0 (Nat.zero_le _) (fun t ht=>of_decide_eq_true (List.all_eq_true.1 yH t ht))
theorem JE (s:ByteArray)(i:Int)(c:Bool)(hs:s.size≤1000000)(h0:0≤i)(h1:i<s.size)(k:Nat)(hk:2*s.size+100<k):
 aJ.f k s i c=some (eU kwL (ig sgL c (sfx s i)).1 (bA ((sfx s i).take (ig sgL c (sfx s i)).2)),i+((ig sgL c (sfx s i)).2:Int)):=by
 obtain ⟨b,e1,e2,e3⟩:=gX s i h0 h1
 obtain ⟨k,rfl⟩:∃m,k=m+3:=⟨k-3,by omega⟩
 have hl:=kH s i
 have y35:((b.toNat:Int)=35)↔b=35:=gK b 35 (by decide)
 have y46:((b.toNat:Int)=46)↔b=46:=gK b 46 (by decide)
 have y39:((b.toNat:Int)=39)↔b=39:=gK b 39 (by decide)
 have y34:((b.toNat:Int)=34)↔b=34:=gK b 34 (by decide)
 have w1:=wr (a:=i+1) (by omega) (by omega)
 have z0:¬(0:Nat)<0:=Nat.lt_irrefl 0
 unfold aJ.f
 rw [if_pos h0,if_pos h1,e2]
 simp only [y35]
 have goal:∀(o:Option (Int × Int)) (kd:Int) (n:Nat),ig sgL c (sfx s i)=(kd,n)→o=some (eU kwL kd (bA ((sfx s i).take n)),i+(n:Int))→o=some (eU kwL (ig sgL c (sfx s i)).1 (bA ((sfx s i).take (ig sgL c (sfx s i)).2)),i+((ig sgL c (sfx s i)).2:Int)):=fun o kd n hP ho=>by rw [hP];exact ho
 have hother:∀q':UInt8,q'≠b→iC q' (sfx s i)=0:=fun q' hne=>by
  rw [e1,iC,if_neg (fun h=>hne h.symm)]
 have j0f:¬(c=true∧b=35)→aJ.j0 (k+3) s i b.toNat false=some (eU kwL (ig sgL c (sfx s i)).1 (bA ((sfx s i).take (ig sgL c (sfx s i)).2)),i+((ig sgL c (sfx s i)).2:Int)):=fun hnl=>by
  have hL:lq c (sfx s i)=0:=by rw [e1,lq,if_neg hnl]
  rw [aJ.j0,if_neg (by decide),wu,vw]
  simp only [Option.bind_some]
  by_cases q1:isL (b.toNat:Int)=true
  · have hn:mV (sfx s i)=iD wdU (sfx s i):=by
     rw [e1,mV,if_pos (show qp b=true from q1),iD,if_pos (show wdU b=true by unfold wdU qp;rw [q1];rfl)]
    have hn0:0<mV (sfx s i):=by rw [e1,mV,if_pos (show qp b=true from q1)];omega
    refine goal _ 1 (mV (sfx s i)) (by unfold ig;rw [hL,if_neg z0,if_pos hn0]) ?_
    rw [if_pos q1]
    unfold bQ.f
    rw [yO s i hs h0 s.size (k+2) i (by omega) (by omega) (by omega) (by omega)]
    simp only [Option.bind_some]
    rw [hn,kK s i _ h0]
  · have hn:mV (sfx s i)=0:=by rw [e1,mV,if_neg (show ¬qp b=true from q1)]
    rw [if_neg q1]
    have hbyte:bM.f s (i+1)=some (hd (sfx s (i+1))):=by rw [rO s (i+1) (by omega),zh s _ (by omega)]
    have hnum:jY (sfx s i)=if qw b=true∨(b=46∧isD (hd (sfx s (i+1)))=true) then pq b (sfx s (i+1))+1 else 0:=by rw [e1,jY]
    have j1:∀x31:Bool,x31=decide (qw b=true∨(b=46∧isD (hd (sfx s (i+1)))=true))→aJ.j1 (k+1+1) s i b.toNat x31=some (eU kwL (ig sgL c (sfx s i)).1 (bA ((sfx s i).take (ig sgL c (sfx s i)).2)),i+((ig sgL c (sfx s i)).2:Int)):=fun x31 hx=>by
     rw [aJ.j1]
     by_cases q2:qw b=true∨(b=46∧isD (hd (sfx s (i+1)))=true)
     · rw [if_pos q2] at hnum
       refine goal _ 3 (jY (sfx s i)) (by unfold ig;rw [hL,if_neg z0,hn,if_neg z0,if_pos (show 0<jY (sfx s i) by omega)]) ?_
       rw [if_pos (by rw [hx];simpa using q2),Hz s i hs h0 h1 b e2 (k+1) (by omega)]
       simp only [Option.bind_some]
       rw [jW (by decide),hnum]
     · rw [if_neg q2] at hnum
       rw [if_neg (by rw [hx];simpa using q2)]
       have j2t:∀q:UInt8,b=q→(q=39∨q=34)→aJ.j2 (k+1) s i b.toNat true=some (eU kwL (ig sgL c (sfx s i)).1 (bA ((sfx s i).take (ig sgL c (sfx s i)).2)),i+((ig sgL c (sfx s i)).2:Int)):=fun q hbq hq=>by
        have hsg:lS sgL (sfx s i)=0:=by rw [e1];exact BJ b _ (by rw [hbq];exact hq)
        have hQ:=Hy s i q hs h0 h1 (by rw [e2,hbq]) (by rcases hq with rfl|rfl<;>decide) k (by omega)
        rw [aJ.j2,if_pos rfl,hQ,w1]
        simp only [Option.bind_some]
        rw [←hbq,←e1]
        simp only [y34]
        rw [←hbq] at hq
        rcases hq with hq|hq
        · have h34:=hother 34 (by rw [hq];decide)
          rw [hq]
          by_cases hz:0<iC 39 (sfx s i)
          · refine goal _ 4 (iC 39 (sfx s i)) (by unfold ig;rw [hL,if_neg z0,hn,if_neg z0,hnum,if_neg z0,if_pos hz]) ?_
            rw [if_neg (by omega),if_neg (by decide),jW (by decide)]
          · refine goal _ 8 1 (by unfold ig;rw [hL,if_neg z0,hn,if_neg z0,hnum,if_neg z0,if_neg hz,h34,if_neg z0,hsg,if_neg z0]) ?_
            rw [if_pos (by omega),jW (by decide)]
            rfl
        · have h39:=hother 39 (by rw [hq];decide)
          rw [hq]
          by_cases hz:0<iC 34 (sfx s i)
          · refine goal _ 5 (iC 34 (sfx s i)) (by unfold ig;rw [hL,if_neg z0,hn,if_neg z0,hnum,if_neg z0,h39,if_neg z0,if_pos hz]) ?_
            rw [if_neg (by omega),if_pos rfl,jW (by decide)]
          · refine goal _ 8 1 (by unfold ig;rw [hL,if_neg z0,hn,if_neg z0,hnum,if_neg z0,h39,if_neg z0,if_neg hz,hsg,if_neg z0]) ?_
            rw [if_pos (by omega),jW (by decide)]
            rfl
       simp only [y39]
       by_cases q39:b=39
       · rw [if_pos q39];exact j2t 39 q39 (.inl rfl)
       · rw [if_neg q39]
         by_cases q34:b=34
         · rw [show (((b.toNat:Int)==34))=true by simpa using y34.2 q34];exact j2t 34 q34 (.inr rfl)
         · rw [show (((b.toNat:Int)==34))=false by simpa using fun h=>q34 (y34.1 h)]
           have h39:=hother 39 (fun h=>q39 h.symm)
           have h34:=hother 34 (fun h=>q34 h.symm)
           rw [aJ.j2,if_neg (by decide)]
           obtain ⟨t,ht,hts⟩:=Lr s i hs h0 (by omega) k (by omega)
           rw [ht]
           simp only [Option.bind_some]
           have hlen:t.toList.length=t.size:=by rw [ByteArray.toList_eq];rfl
           have hle:=G8 (sfx s i)
           by_cases hz:0<lS sgL (sfx s i)
           · refine goal _ 6 (lS sgL (sfx s i)) (by unfold ig;rw [hL,if_neg z0,hn,if_neg z0,hnum,if_neg z0,h39,if_neg z0,h34,if_neg z0,if_pos hz]) ?_
             rw [if_neg (fun h=>by rw [h] at hlen;simp at hlen;omega),wr (by omega) (by omega),jW (by decide),hts]
           · refine goal _ 8 1 (by unfold ig;rw [hL,if_neg z0,hn,if_neg z0,hnum,if_neg z0,h39,if_neg z0,h34,if_neg z0,if_neg hz]) ?_
             rw [if_pos (List.eq_nil_of_length_eq_zero (by omega)),w1,jW (by decide)]
             rfl
    by_cases q2:isD (b.toNat:Int)=true
    · rw [if_pos q2];exact j1 _ (by simp [qw,q2])
    · rw [if_neg q2]
      simp only [y46]
      by_cases q46:b=46
      · rw [if_pos q46,w1,hbyte]
        simp only [Option.bind_some,vw]
        exact j1 _ (by rw [Bool.eq_iff_iff,decide_eq_true_iff];unfold qw;exact ⟨fun h=> .inr ⟨q46,h⟩,fun h=>h.elim (fun h=>absurd h q2) (fun h=>h.2)⟩)
      · rw [if_neg q46];exact j1 _ (by simp [qw,q2,q46])
 by_cases q:b=35
 · rw [if_pos q]
   cases c with
   |false=>exact j0f (fun h=>absurd h.1 (by decide))
   |true=>
    obtain ⟨p1,p2⟩:=DY (sfx s (i+1))
    have hLi:=yQ s i hs h0 (by rw [e1,q];rfl) s.size (k+2) 0 (Nat.zero_le _) (by omega) (by omega)
    rw [aJ.j0,if_pos rfl]
    unfold dO.f
    rw [show i+((0:Nat):Int)=i by omega] at hLi
    have hE:sfx s i=35::sfx s (i+1):=by rw [e1,q]
    rw [←hE] at p1 p2
    refine goal _ 7 (lq true (sfx s i)) (by unfold ig;rw [if_pos p1]) ?_
    rw [hLi,jW (by decide)]
    simp only [Option.bind_some,Option.some.injEq,Prod.mk.injEq,true_and]
    omega
 · rw [if_neg q]
   exact j0f (fun h=>q h.2)
def iY (t:Tk):S95:=⟨t.1,t.2.1,t.2.2.1,t.2.2.2⟩
def J6 (b:ByteArray):List Tk→List Tk
 |[]=>[]
 |t::r=>(t.1,b,t.2.2)::r
theorem zT:∀(f g:Nat) (l:List UInt8) (c:Bool),l.length≤f→l.length≤g→iW f l c=iW g l c
 |0,g,l,c,h,_=>by
  obtain rfl:l=[]:=List.eq_nil_of_length_eq_zero (by omega)
  cases g with
  |zero=>rfl
  |succ g=>rfl
 |f+1,0,l,c,_,h=>by
  obtain rfl:l=[]:=List.eq_nil_of_length_eq_zero (by omega)
  rfl
 |f+1,g+1,l,c,h1,h2=>by
  rw [iW,iW]
  cases h:iL l c with
  |none=>rfl
  |some r=>
   obtain ⟨p1,p2⟩:=nO h
   have:=zT f g (l.drop r.1) r.2 (by rw [List.length_drop];omega) (by rw [List.length_drop];omega)
   simp only [this]
theorem zS (N:Nat)(l:List UInt8)(c:Bool)(h:iL l c=none):iW N l c=(0,c):=by
 cases N with
 |zero=>rfl
 |succ N=>rw [iW,h]
theorem zQ (N:Nat)(l:List UInt8)(c:Bool)(r:Nat × Bool)(h:iL l c=some r)(hN:l.length≤N):iW N l c=(r.1+(iW N (l.drop r.1) r.2).1,(iW N (l.drop r.1) r.2).2):=by
 obtain ⟨p1,p2⟩:=nO h
 obtain ⟨N,rfl⟩:∃m,N=m+1:=⟨N-1,by omega⟩
 rw [iW,h]
 simp only
 rw [zT N (N+1) (l.drop r.1) r.2 (by rw [List.length_drop];omega) (by rw [List.length_drop];omega)]
theorem DV (b:UInt8)(l:List UInt8)(c:Bool)(r:Nat × Bool)(h:iL (b::l) c=some r):r.2=if r.1=1∧(b=11∨b=12∨b=13) then false else (c||((b::l).take r.1).contains 10):=by
 rw [iL] at h
 by_cases q1:b=10
 · rw [if_pos q1] at h
   obtain rfl:=Option.some.inj h
   rw [if_neg (by rw [q1];decide),q1];simp
 rw [if_neg q1] at h
 by_cases q2:b=32∨b=9
 · rw [if_pos q2] at h
   obtain rfl:=Option.some.inj h
   rw [if_neg (by rcases q2 with rfl|rfl<;>exact fun h=>absurd h.2 (by decide))]
   rcases q2 with rfl|rfl<;>simp
 rw [if_neg q2] at h
 by_cases q3:b=11∨b=12∨b=13
 · rw [if_pos q3] at h
   obtain rfl:=Option.some.inj h
   rw [if_pos ⟨rfl,q3⟩]
 rw [if_neg q3] at h
 have hnot:∀n,¬(n=1∧(b=11∨b=12∨b=13)):=fun n h=>q3 h.2
 rw [if_neg (hnot _)]
 by_cases q4:b=92∧hd l=10
 · rw [if_pos q4] at h
   obtain rfl:=Option.some.inj h
   obtain ⟨rfl,q5⟩:=q4
   cases l with
   |nil=>cases q5
   |cons a l=>
    have:a=10:=(gK a 10 (by decide)).1 q5
    rw [this];simp
 rw [if_neg q4] at h
 by_cases q5:b=92∧hd l=13∧hd l.tail=10
 · rw [if_pos q5] at h
   obtain rfl:=Option.some.inj h
   obtain ⟨rfl,q6,q7⟩:=q5
   cases l with
   |nil=>cases q6
   |cons a l=>
    cases l with
    |nil=>cases q7
    |cons a2 l=>
     have:a2=10:=(gK a2 10 (by decide)).1 q7
     rw [this];simp
 rw [if_neg q5] at h
 unfold qX at h
 split at h
 · obtain rfl:=Option.some.inj h
   simp only
   have:((b::l).take (iD (fun x=>x !=10) (b::l))).contains 10=false:=by
    rw [Bool.eq_false_iff]
    intro hc
    rw [List.contains_iff_mem] at hc
    obtain ⟨j,hj⟩:=List.getElem?_of_mem hc
    rw [List.getElem?_take] at hj
    split at hj
    · rename_i hlt
      have:=zY (fun x=>x !=10) (b::l) j 10 hlt hj
      simp at this
    · cases hj
   rw [this];simp
 · split at h
   · obtain rfl:=Option.some.inj h
     rfl
   · cases h
theorem FC (kw sg:List ByteArray)(N:Nat)(at0:Int)(l:List UInt8)(c:Bool)(r:Nat × Bool)(h:iL l c=some r)(hN:l.length≤N):
 (kT kw sg N at0 l c).1.1=(kT kw sg N (at0+r.1) (l.drop r.1) r.2).1.1∧(kT kw sg N at0 l c).1.2.2=(kT kw sg N (at0+r.1) (l.drop r.1) r.2).1.2.2∧(kT kw sg N at0 l c).2.1=r.1+(kT kw sg N (at0+r.1) (l.drop r.1) r.2).2.1∧(kT kw sg N at0 l c).2.2=(kT kw sg N (at0+r.1) (l.drop r.1) r.2).2.2:=by
 have hb:=zQ N l c r h hN
 unfold kT
 rw [hb]
 simp only
 generalize iW N (l.drop r.1) r.2=r'
 rw [←List.drop_drop]
 have ea:at0+((r.1+r'.1:Nat):Int)=at0+(r.1:Int)+(r'.1:Int):=by omega
 by_cases q:(l.drop r.1).drop r'.1=[]
 · rw [if_pos q,if_pos q]
   exact ⟨rfl,by simp only [ea],rfl,rfl⟩
 · rw [if_neg q,if_neg q]
   exact ⟨rfl,by simp only [ea],by simp only;omega,rfl⟩
theorem Dy (kw sg:List ByteArray)(N f:Nat)(at0:Int)(l:List UInt8)(c:Bool)(r:Nat × Bool)(h:iL l c=some r)(hN:l.length≤N)(b:ByteArray):
 J6 b (lQ kw sg N f at0 l c)=J6 b (lQ kw sg N f (at0+r.1) (l.drop r.1) r.2):=by
 cases f with
 |zero=>rfl
 |succ f=>
  obtain ⟨h1,h2,h3,h4⟩:=FC kw sg N at0 l c r h hN
  rw [lQ,lQ,h1,h3,h4]
  rw [←List.drop_drop,show at0+((r.1+(kT kw sg N (at0+↑r.1) (l.drop r.1) r.2).2.1:Nat):Int)=at0+(r.1:Int)+((kT kw sg N (at0+↑r.1) (l.drop r.1) r.2).2.1:Int) by omega]
  split
  · show [_]=[_]
    rw [h1,h2]
  · show _::_=_::_
    rw [h1,h2]
theorem EO (kw sg:List ByteArray)(N f:Nat)(at0:Int)(l:List UInt8)(c:Bool):J6 (bA (l.take (iW N l c).1)) (lQ kw sg N f at0 l c)=lQ kw sg N f at0 l c:=by
 cases f with
 |zero=>rfl
 |succ f=>
  have:(kT kw sg N at0 l c).1.2.1=bA (l.take (iW N l c).1):=by
   unfold kT
   simp only
   split<;>rfl
  rw [lQ,←this]
  split<;>rfl
theorem BZ (s:ByteArray)(out:List S95)(fr at0 x7:Int)(hs:s.size≤1000000):∀(m k:Nat) (x:Int) (c:Bool),0≤x→x+m≤s.size→x+m≤x7→aI.l1 (k+m) s out fr at0 c x7 x=aI.l1 k s out fr at0 (c||((sfx s x).take m).contains 10) x7 (x+m)
 |0,k,x,c,_,_,_=>by simp
 |m+1,k,x,c,h0,h1,h2=>by
  obtain ⟨b,e1,e2,_⟩:=gX s x h0 (by omega)
  have ih:=fun c=>BZ s out fr at0 x7 hs m k (x+1) c (by omega) (by omega) (by omega)
  have y10:((b.toNat:Int)=10)↔b=10:=gK b 10 (by decide)
  rw [show k+(m+1)=(k+m)+1 by omega,aI.l1,if_pos (by omega),if_pos h0,if_pos (by omega),e2,wr (by omega) (by omega),e1,ih,ih]
  rw [show x+1+(m:Int)=x+((m+1:Nat):Int) by omega,List.take_succ_cons]
  by_cases q:b=10
  · rw [if_pos (y10.2 q),q]
    simp
  · rw [if_neg (fun h=>q (y10.1 h))]
    have:(b::(sfx s (x+1)).take m).contains 10=((sfx s (x+1)).take m).contains 10:=by
     rw [List.contains_cons]
     have:((10:UInt8)==b)=false:=by rw [beq_eq_false_iff_ne];exact fun h=>q h.symm
     rw [this];simp
    rw [this]
theorem Ce (s:ByteArray)(at0:Int)(c:Bool)(hs:s.size≤1000000)(h0:0≤at0)(h1:at0<s.size):1≤(ig sgL c (sfx s at0)).2∧at0+((ig sgL c (sfx s at0)).2:Int)≤s.size∧∀t,eU kwL (ig sgL c (sfx s at0)).1 t≠0:=by
 have hl:sgL.length≤1000000:=by rw [pR];omega
 obtain ⟨n,kd,h,p1,p2,p3⟩:=mD s at0 sgL c hs h0 h1 hl (K0 s sgL) (by unfold K0;omega) (by unfold K0;omega) 6 0
 have h':=BA s at0 sgL c hs h0 (by omega) hl (K0 s sgL) (by unfold K0;omega) (by unfold K0;omega) .nilIface
 rw [h .nilIface] at h'
 simp only [Option.some.injEq,Prod.mk.injEq] at h'
 obtain ⟨e1,e2,_⟩:=h'
 refine ⟨by omega,by omega,fun t=> ?_⟩
 rw [←e2]
 unfold eU
 split
 · decide
 · omega
theorem wz (s:ByteArray)(hs:s.size≤1000000):∀(d k f:Nat) (at0 fr:Int) (c:Bool) (out:List S95),0≤fr→fr≤at0→at0≤s.size→(s.size:Int)-at0≤d→(s.size:Int)-at0<f→4*d+2*s.size+200<k→out.length≤at0→
 aI.l0 k s out fr at0 c=some (out++(J6 (s.extract fr.toNat (at0+(iW s.size (sfx s at0) c).1).toNat) (lQ kwL sgL s.size f at0 (sfx s at0) c)).map iY)
 |d,0,_,_,_,_,_,_,_,_,_,_,h,_=>by omega
 |d,k+1,f,at0,fr,c,out,hf0,hfa,ha1,hd_,hff,hk,hout=>by
  have h0:0≤at0:=by omega
  have hl:=kH s at0
  rw [aI.l0,JG s at0 c hs h0 ha1 k (by omega)]
  simp only [Option.bind_some]
  obtain ⟨f,rfl⟩:∃m,f=m+1:=⟨f-1,by omega⟩
  cases hP:iL (sfx s at0) c with
  |none=>
   have hb:=zS s.size (sfx s at0) c hP
   simp only
   rw [if_neg (by omega),hb]
   by_cases he:at0=s.size
   · rw [if_pos he,if_pos hf0,if_pos (by omega),if_pos (by omega)]
     have ht:kT kwL sgL s.size at0 (sfx s at0) c=((0,bA ((sfx s at0).take 0),⟨#[]⟩,at0+((0:Nat):Int)),0,c):=by
      unfold kT
      rw [hb]
      simp only
      rw [if_pos (by rw [List.drop_zero];exact iE s at0 (by omega))]
     rw [lQ,ht,if_pos rfl]
     show some (out++[_])=some (out++[iY (0,_,_)])
     rw [show (at0+(((0:Nat),c).1:Int)).toNat=s.size by show (at0+((0:Nat):Int)).toNat=s.size;omega,show at0+((0:Nat):Int)=at0 by omega]
     rfl
   · rw [if_neg he]
     have hlt:at0<s.size:=by omega
     obtain ⟨p1,p2,p3⟩:=Ce s at0 c hs h0 hlt
     rw [JE s at0 c hs h0 hlt k (by omega)]
     simp only [Option.bind_some]
     have ht:kT kwL sgL s.size at0 (sfx s at0) c=((eU kwL (ig sgL c (sfx s at0)).1 (bA ((sfx s at0).take (ig sgL c (sfx s at0)).2)),bA ((sfx s at0).take 0),bA ((sfx s at0).take (ig sgL c (sfx s at0)).2),at0+((0:Nat):Int)),0+(ig sgL c (sfx s at0)).2,false):=by
      unfold kT
      rw [hb]
      simp only
      rw [List.drop_zero,if_neg (by
       intro h
       rw [h] at hl
       simp only [List.length_nil] at hl
       omega)]
     rw [lQ,ht,if_neg (p3 _)]
     simp only
     generalize hn:(ig sgL c (sfx s at0)).2=n at *
     generalize (ig sgL c (sfx s at0)).1=kd at *
     rw [if_pos hf0,if_pos hfa,if_pos ha1,if_pos h0,if_pos (by omega),if_pos p2,if_pos (by omega)]
     obtain ⟨d,rfl⟩:∃m,d=m+1:=⟨d-1,by omega⟩
     rw [wz s hs d k f (at0+n) (at0+n) false _ (by omega) (Int.le_refl _) p2 (by omega) (by omega) (by omega) (by rw [List.length_append,List.length_singleton];omega)]
     rw [kK s (at0+n) _ (by omega),EO,kK s at0 n h0,Nat.zero_add,mM s at0 n h0]
     rw [List.append_assoc]
     rw [show at0+((0:Nat):Int)=at0 by omega]
     rfl
  |some r=>
   obtain ⟨q1,q2⟩:=nO hP
   have hlt:at0<s.size:=by omega
   simp only
   rw [if_pos (by omega)]
   have hb:=zQ s.size (sfx s at0) c r hP (by omega)
   obtain ⟨k,rfl⟩:∃m,k=m+r.1:=⟨k-r.1,by omega⟩
   rw [BZ s out fr at0 (at0+r.1) hs r.1 k at0 c h0 (by omega) (Int.le_refl _)]
   obtain ⟨b,e1,e2,_⟩:=gX s at0 h0 hlt
   have hfl:=DV b (sfx s (at0+1)) c r (by rw [←e1];exact hP)
   rw [←e1] at hfl
   obtain ⟨d,rfl⟩:∃m,d=m+1:=⟨d-1,by omega⟩
   obtain ⟨k,rfl⟩:∃m,k=m+2:=⟨k-2,by omega⟩
   have ih:=wz s hs (d+1-r.1) k (f+1) (at0+r.1) fr r.2 out hf0 (by omega) (by omega) (by omega) (by omega) (by omega) (by omega)
   have hfix:=Dy kwL sgL s.size (f+1) at0 (sfx s at0) c r hP (by omega) (s.extract fr.toNat (at0+(iW s.size (sfx s at0) c).1).toNat)
   rw [hfix,hb]
   simp only
   rw [mM s at0 r.1 h0] at ih
   rw [show at0+((r.1+(iW s.size ((sfx s at0).drop r.1) r.2).1:Nat):Int)=at0+(r.1:Int)+((iW s.size ((sfx s at0).drop r.1) r.2).1:Int) by omega]
   rw [←ih,aI.l1,if_neg (by omega),wr (a:=at0+1) (by omega) (by omega),e2]
   have y11:(b=11∨b=12∨b=13)↔((b.toNat:Int)≥11∧(b.toNat:Int)≤13):=by
    have z11:((b.toNat:Int)=11)↔b=11:=gK b 11 (by decide)
    have z12:((b.toNat:Int)=12)↔b=12:=gK b 12 (by decide)
    have z13:((b.toNat:Int)=13)↔b=13:=gK b 13 (by decide)
    rw [←z11,←z12,←z13]
    omega
   simp only [y11] at hfl
   by_cases g1:r.1=1
   · rw [if_pos (by omega),if_pos h0,if_pos hlt]
     by_cases g2:(b.toNat:Int)≥11
     · rw [if_pos g2,aI.j2]
       by_cases g3:(b.toNat:Int)≤13
       · rw [if_pos ⟨g1,g2,g3⟩] at hfl
         rw [if_pos (by simpa using g3),hfl]
       · rw [if_neg (fun h=>g3 h.2.2)] at hfl
         rw [if_neg (by simpa using g3),hfl]
     · rw [if_neg (fun h=>g2 h.2.1)] at hfl
       rw [if_neg g2,aI.j2,if_neg (by decide),hfl]
   · rw [if_neg (fun h=>g1 h.1)] at hfl
     rw [if_neg (by omega),aI.j2,if_neg (by decide),hfl]
theorem LD (s:ByteArray)(hs:s.size≤1000000)(k:Nat)(hk:6*s.size+300<k):iK.f k s=some ((eG s).1.map iY,(eG s).2):=by
 have hl:=kH s 0
 have hsg:sgL.length≤1000000:=by rw [pR];omega
 unfold iK.f eG
 by_cases h:s.size>200000
 · rw [if_pos (by omega),if_pos h];rfl
 · rw [if_neg (by omega),if_neg h]
   unfold aI.f
   rw [wz s hs s.size k (s.size+1) 0 0 true [] (Int.le_refl _) (Int.le_refl _) (by omega) (by omega) (by omega) (by omega) (by simp)]
   rw [kK s 0 _ (Int.le_refl _),EO,←vS kwL sgL s hs hsg (s.size+1) 0 true (Int.le_refl _) (by omega)]
   simp only [Option.bind_some,List.nil_append,List.length_map]
   by_cases h2:(jh kwL sgL s (s.size+1) 0 true).length>40000
   · rw [if_pos (by omega),if_pos h2];rfl
   · rw [if_neg (by omega),if_neg h2]
end Go.Proofs.YtolaiebjmhieiaaGreatDoor.OScan
end
section
namespace Go.Proofs.YtolaiebjmhieiaaGreatDoor.OScan
open Go.RowKit YtolaiebjmhieiaaGreatDoorW.PrintWords YtolaiebjmhieiaaGreatDoorW.PrintLast YtolaiebjmhieiaaGreatDoorW.PrintMore
theorem FK (l:List UInt8):lS sgL (40::l)=1:=by kernel_rfl
theorem FI (l:List UInt8):lS sgL (59::l)=1:=by kernel_rfl
theorem yB (a:UInt8)(ha:a=40∨a=59)(s:ByteArray)(hs:s.size≤190000):
 jh kwL sgL (⟨#[a]⟩++s) ((⟨#[a]⟩++s).size+1) 0 true=(6,⟨#[]⟩,⟨#[a]⟩,0)::lQ kwL sgL (s.size+1) (s.size+1) 1 s.data.toList false:=by
 have hsz:((⟨#[a]⟩:ByteArray)++s).size=s.size+1:=by rw [ByteArray.size_append];show 1+s.size=s.size+1;omega
 have hl:sfx ((⟨#[a]⟩:ByteArray)++s) 0=a::s.data.toList:=by
  unfold sfx
  simp [ByteArray.data_append]
 rw [vS kwL sgL _ (by omega) (by rw [pR];omega) _ 0 true (Int.le_refl _) (by omega),hl,hsz,lQ]
 have hP:iL (a::s.data.toList) true=none:=by
  rcases ha with rfl|rfl
  · rw [iL];simp [qX]
  · rw [iL];simp [qX]
 have hk:ig sgL true (a::s.data.toList)=(6,1):=by
  have h1:lq true (a::s.data.toList)=0:=by
   rw [lq,if_neg (by rcases ha with rfl|rfl<;>decide)]
  have h2:mV (a::s.data.toList)=0:=by
   rw [mV,if_neg (by rcases ha with rfl|rfl<;>decide)]
  have h3:jY (a::s.data.toList)=0:=by
   rw [jY,if_neg (by
    rintro (h|⟨h,_⟩)
    · rcases ha with rfl|rfl<;>exact absurd h (by decide)
    · rcases ha with rfl|rfl<;>exact absurd h (by decide))]
  have h4:iC 39 (a::s.data.toList)=0:=by
   rw [iC,if_neg (by rcases ha with rfl|rfl<;>decide)]
  have h5:iC 34 (a::s.data.toList)=0:=by
   rw [iC,if_neg (by rcases ha with rfl|rfl<;>decide)]
  have h6:lS sgL (a::s.data.toList)=1:=by
   rcases ha with rfl|rfl
   · exact FK _
   · exact FI _
  unfold ig
  rw [h1,h2,h3,h4,h5,h6]
  rfl
 have ht:kT kwL sgL (s.size+1) 0 (a::s.data.toList) true=((6,⟨#[]⟩,⟨#[a]⟩,0),1,false):=by
  unfold kT
  rw [zS _ _ _ hP]
  simp only
  rw [List.drop_zero,if_neg (by simp),hk]
  rfl
 rw [ht]
 rfl
def behind (s:ByteArray):List Tk:=lQ kwL sgL (s.size+1) (s.size+1) 1 s.data.toList false
theorem yK (a:UInt8)(ha:a=40∨a=59)(s:ByteArray)(hs:s.size≤190000):
 eG (⟨#[a]⟩++s)=if (behind s).length+1>40000 then ([],2) else ((6,⟨#[]⟩,⟨#[a]⟩,0)::behind s,0):=by
 have hsz:((⟨#[a]⟩:ByteArray)++s).size=s.size+1:=by rw [ByteArray.size_append];show 1+s.size=s.size+1;omega
 unfold eG
 rw [if_neg (by omega),yB a ha s hs]
 rfl
theorem yC (s:ByteArray)(hs:s.size≤1000000):∀(f:Nat) (at0:Int) (c:Bool),0≤at0→at0≤s.size→(s.size:Int)-at0<f→∃init e,jh kwL sgL s f at0 c=init++[e]∧e.1=0∧∀t∈init,t.1≠0
 |0,at0,c,h0,h1,hf=>by omega
 |f+1,at0,c,h0,h1,hf=>by
  obtain ⟨p1,p2,p3,_,_⟩:=oq kwL sgL s at0 c hs h0 h1 (by rw [pR];omega)
  rw [jh]
  by_cases hk:(iR kwL sgL s at0 c).1.1=0
  · rw [if_pos hk]
    exact ⟨[],_,rfl,hk,fun t ht=>by simp at ht⟩
  · rw [if_neg hk]
    have:=p3 hk
    obtain ⟨init,e,h1,h2,h3⟩:=yC s hs f _ (iR kwL sgL s at0 c).2.2 (by omega) p1 (by omega)
    rw [h1]
    refine ⟨(iR kwL sgL s at0 c).1::init,e,rfl,h2,fun t ht=> ?_⟩
    rcases List.mem_cons.1 ht with rfl|ht
    · exact hk
    · exact h3 t ht
theorem xC (s:ByteArray)(hs:s.size≤190000):∃init e,behind s=init++[e]∧e.1=0∧(∀t∈init,t.1≠0∧1≤t.2.2.2∧t.2.2.2≤(s.size:Int))∧init.length≤s.size:=by
 have hsz:((⟨#[40]⟩:ByteArray)++s).size=s.size+1:=by rw [ByteArray.size_append];show 1+s.size=s.size+1;omega
 have hh:=yB 40 (.inl rfl) s hs
 obtain ⟨init,e,h1,h2,h3⟩:=yC (⟨#[40]⟩++s) (by omega) ((⟨#[40]⟩++s).size+1) 0 true (Int.le_refl _) (by omega) (by omega)
 have hat:=oV (⟨#[40]⟩++s) (by omega) ((⟨#[40]⟩++s).size+1) 0 true (Int.le_refl _) (by omega)
 have hlen:=sU (⟨#[40]⟩++s) (by omega) ((⟨#[40]⟩++s).size+1) 0 true (Int.le_refl _) (by omega)
 rw [hh] at h1 hat hlen
 show ∃init e,behind s=_∧_
 have hb:lQ kwL sgL (s.size+1) (s.size+1) 1 s.data.toList false=behind s:=rfl
 rw [hb] at h1 hat hlen
 cases init with
 |nil=>
  simp only [List.nil_append,List.cons.injEq] at h1
  rw [←h1.1] at h2
  cases h2
 |cons a init=>
  simp only [List.cons_append,List.cons.injEq] at h1
  obtain ⟨_,h1⟩:=h1
  rw [h1] at hlen
  simp only [List.length_cons,List.length_append,List.length_nil] at hlen
  refine ⟨init,e,h1,h2,fun t ht=> ?_,by omega⟩
  have hne:=h3 t (List.mem_cons_of_mem _ ht)
  obtain ⟨j,hj⟩:=List.getElem?_of_mem ht
  have hjl:=(List.getElem?_eq_some_iff.1 hj).1
  obtain ⟨q1,q2,q3⟩:=hat (j+1) t (by rw [h1,List.getElem?_cons_succ,List.getElem?_append_left hjl];exact hj)
  have:=q3 hne
  have q1':(0:Int)+((j+1:Nat):Int)≤t.2.2.2:=q1
  exact ⟨hne,by omega,by omega⟩
def MW (add:Int)(t:Tk):Tk:=(t.1,t.2.1,t.2.2.1,t.2.2.2+add-1)
def KO (add:Int)(t:Tk):Tk:=(6,t.2.1,⟨#[35]⟩,t.2.2.2+add-1)
def oZ (add:Int):List Tk→List Tk→List Tk × Option Int
 |[],out=>(out,none)
 |t::l,out=>if t.1=0 then oZ add l out else if t.1=7 then (out++[KO add t],some (t.2.2.2+add)) else oZ add l (out++[MW add t])
theorem vY (rec_:ByteArray→Int→Option (List Tk))(s:ByteArray)(add:Int)(hs:s.size≤190000)(ha0:0≤add)(ha1:add≤1000000)(e:Tk)(he:e.1=0):
 ∀(zs out res:List Tk),(∀t∈zs,t.1≠0∧1≤t.2.2.2∧t.2.2.2≤(s.size:Int))→jK rec_ s add zs out=some res→
  (oZ add (zs++[e]) out=(res,none))∨∃o p r,oZ add (zs++[e]) out=(o,some p)∧rec_ (s.extract (p-add).toNat s.size) p=some r∧res=o++r∧add<p∧p≤add+s.size
 |[],out,res,_,h=>by
  simp only [jK,Option.some.injEq] at h
  left
  rw [List.nil_append,oZ,if_pos he,oZ,h]
 |t::zs,out,res,hz,h=>by
  obtain ⟨q1,q2,q3⟩:=hz t (List.mem_cons_self ..)
  have hw:mZ t.2.2.2=t.2.2.2:=by unfold mZ;rw [wr (a:=t.2.2.2-1) (by omega) (by omega)];exact wr (by omega) (by omega) |>.trans (by omega)
  have hp:kF add t.2.2.2=t.2.2.2+add-1:=by
   unfold kF;rw [wr (a:=t.2.2.2-1) (by omega) (by omega)];exact wr (by omega) (by omega) |>.trans (by omega)
  rw [List.cons_append,oZ,if_neg q1]
  rw [jK] at h
  by_cases hk:t.1=7
  · rw [if_pos hk,hw,hp,if_pos ⟨by omega,q3⟩,wr (by omega) (by omega)] at h
    rw [if_pos hk]
    right
    obtain ⟨r,hr,h⟩:=Option.bind_eq_some_iff.1 h
    split at h
    · refine ⟨_,_,r,rfl,?_,(Option.some.inj h).symm,by omega,by omega⟩
      rw [show t.2.2.2+add-add=t.2.2.2 by omega,show t.2.2.2+add=add+t.2.2.2 by omega]
      exact hr
    · cases h
  · rw [if_neg hk,hp] at h
    rw [if_neg hk]
    exact vY rec_ s add hs ha0 ha1 e he zs _ res (fun t' ht'=>hz t' (List.mem_cons_of_mem _ ht')) h
theorem uy (rec_:ByteArray→Int→Option (List Tk))(s:ByteArray)(add:Int):∀(zs out pre:List Tk),jK rec_ s add zs (pre++out)=(jK rec_ s add zs out).map (pre++ ·)
 |[],out,pre=>rfl
 |t::zs,out,pre=>by
  rw [jK,jK]
  by_cases hk:t.1=7
  · rw [if_pos hk,if_pos hk]
    split
    · cases rec_ (s.extract (mZ t.2.2.2).toNat s.size) (wrap64 (add+mZ t.2.2.2)) with
      |none=>rfl
      |some r=>
       simp only [Option.bind_some]
       split
       · simp
       · rfl
    · rfl
  · rw [if_neg hk,if_neg hk,List.append_assoc]
    exact uy rec_ s add zs _ pre
theorem Bh (K:Nat)(s:ByteArray)(add:Int)(out res:List Tk)(hs:s.size≤190000)(hb:(behind s).length+1≤40000)(ha0:0≤add)(ha1:add≤1000000)(h:jk (K+1) s add=some res):
 (eG (⟨#[59]⟩++s)).2=0∧(eG (⟨#[59]⟩++s)).1=(6,⟨#[]⟩,⟨#[59]⟩,0)::behind s∧
  ((oZ add (behind s) out=(out++res,none))∨∃o p r,oZ add (behind s) out=(o,some p)∧jk K (s.extract (p-add).toNat s.size) p=some r∧out++res=o++r∧add<p∧p≤add+s.size):=by
 have h59:=yK 59 (.inr rfl) s hs
 have h40:=yK 40 (.inl rfl) s hs
 rw [if_neg (by omega)] at h59 h40
 refine ⟨by rw [h59],by rw [h59],?_⟩
 obtain ⟨init,e,e1,e2,e3,e4⟩:=xC s hs
 rw [jk] at h
 simp only [h40] at h
 rw [if_pos trivial] at h
 have hl:(((6:Int),(⟨#[]⟩:ByteArray),(⟨#[40]⟩:ByteArray),(0:Int))::behind s).length=init.length+2:=by
  rw [e1];simp
 rw [hl,if_pos ⟨by omega,by omega⟩] at h
 have ht:((((6:Int),(⟨#[]⟩:ByteArray),(⟨#[40]⟩:ByteArray),(0:Int))::behind s).take (init.length+2-1)).drop 1=init:=by
  rw [e1,show init.length+2-1=init.length+1 by omega,List.take_succ_cons]
  simp
 rw [ht] at h
 have h':=uy (jk K) s add init [] out
 rw [h,List.append_nil] at h'
 rw [e1]
 exact vY (jk K) s add hs ha0 ha1 e e2 init out (out++res) e3 h'
theorem NT {w:World}{base:Nat}{ok:Nat→Prop}{v:Value}{xs:List Tk}(h:Kd.R ORef.k95 95 w base ok v (xs.map iY)):Kd.R kTk 95 w base ok v xs:=by
 obtain ⟨h0,inner,ho,hr⟩:=h
 rw [List.length_map] at ho
 exact ⟨h0,inner,ho,by have:=hr.1;rwa [List.length_map] at this,fun j p hp=>hr.2 j (iY p) (by rw [List.getElem?_map,hp];rfl)⟩
theorem yU (s:ByteArray)(w:World)(hs:s.size≤190001):Calls Tryz.prog 46 #[.string s] w fun e w'=>∃v,e= .returned (.tuple #[v,.int .i64 (eG s).2])∧Kd.R kTk 95 w' w.heap.size (fun _=>True) v (eG s).1∧Below w.heap.size w w':=by
 refine (ORef.iK.calls (6*s.size+301) s _ _ w (LD s (by omega) _ (by omega))).mono ?_
 rintro e w' ⟨v,rfl,hR,hb⟩
 exact ⟨v,rfl,NT hR,hb⟩
theorem Hq {w4:World}{L0 L1 Y c:Nat}{A:Option Addr}{ys:List Tk}(h:ah (Kd.R kTk 95 w4 L0 (fun k=>L0≤k∧k<L1) (.slice A Y c) ys∧L1≤w4.heap.size))(o:Obj):
 ah (Kd.R kTk 95 (w4.alloc o) L0 (fun k=>L0≤k∧k<L1) (.slice A Y c) ys∧L1≤(w4.alloc o).heap.size):=⟨Kd.dP h.out.1 o,by rw [bT];exact Nat.le_succ_of_le h.out.2⟩
theorem Ew (i:Nat):Value.int .i64 ((i:Int)+1)=Value.int .i64 ((i+1:Nat):Int):=rfl
theorem JA (o:List Tk)(kd:Int)(bf tx:ByteArray)(n po:Nat)(m2:Int)(np:Nat)(h:m2=(n:Int)+(po:Int)-1∧np=n+po):(o++[KO po (kd,bf,tx,(n:Int))],some ((n:Int)+(po:Int)))=(o++[((6:Int),bf,(⟨#[35]⟩:ByteArray),m2)],some (np:Int)):=by
 obtain ⟨rfl,rfl⟩:=h
 rw [show ((n+po:Nat):Int)=(n:Int)+(po:Int) from by omega];rfl
theorem Lp (po n:Nat)(kd:Int)(bf tx:ByteArray)(m2:Int)(np:Nat)(h:m2=(n:Int)+(po:Int)-1∧np=n+po):MW po (kd,bf,tx,(n:Int))=(kd,bf,tx,m2):=by
 obtain ⟨rfl,rfl⟩:=h;rfl
theorem Hg {a b i Y c d n p:Nat}(h1:a+1≤b+i)(h2:b≤5000)(h3:Y=c+2∧c≤d)(h4:d=n-p)(h5:n≤4000)(h6:i<Y):a+1≤100000:=by omega
theorem Hl {w:World}{o:Obj}{L0 L1:Nat}(h:L1≤w.heap.size):∀k,(w.alloc o).heap.size≤k→k<L0∨L1≤k:=fun k hk=>by
 rw [bT] at hk;omega
theorem Ho {a:Nat}(h:a≤100000):(a+1)*48≤140737488355328:=by omega
theorem Ey {w4 w6:World}{L0 L1 Y c:Nat}{A:Option Addr}{u:Value}{o:Obj}{ys:List Tk}(h:Kd.R kTk 95 w4 L0 (fun k=>L0≤k∧k<L1) (.slice A Y c) ys∧L1≤w4.heap.size)(hu:∀k,u.ownBlock=some k→k<L0∨L1≤k)(hg:World.grownBy (w4.alloc o) w6 u.ownBlock):
 Kd.R kTk 95 w6 L0 (fun k=>L0≤k∧k<L1) (.slice A Y c) ys∧L1≤w6.heap.size:=by
 refine ⟨Kd.AY (Kd.dP h.1 o) hg (fun k hk e=> ?_),?_⟩
 · have:=hu k e.symm;omega
 · have h1:=hg.size
   rw [bT] at h1
   exact Nat.le_trans h.2 (Nat.le_trans (Nat.le_succ _) h1)
theorem wB (at0:Int)(bf tx:ByteArray)(wl:List Tk)(w:World)(h1:1≤tx.size)(hs:tx.size≤4001)(h35:bt tx 0=35)(hw:jk (tx.size+1) (tx.extract 1 tx.size) 0=some wl)(hwl:wl.length≤5000):
 Calls Tryz.prog 84 #[.agg #[.int .i64 7,.string bf,.string tx,.int .i64 at0]] w fun e w'=>∃v,e= .returned (.tuple #[v,.int .i64 0])∧Kd.R kTk 95 w' w.heap.size (fun _=>True) v wl∧Below w.heap.size w w':=by
 have hb0:=pF tx 0
 rw [h35] at hb0
 have hne:(tx.toList==([]:List UInt8))=false:=by
  rw [beq_eq_false_iff_ne]
  intro h
  have:tx.toList.length=tx.size:=by rw [ByteArray.toList_eq];rfl
  rw [h] at this
  simp only [List.length_nil] at this
  omega
 have hpos:(0:Int)<(tx.size:Int):=by omega
 have hposn:0<tx.size:=by omega
 have hge1:(1:Int)≤(tx.size:Int):=by omega
 have h0c:((tx[0]'hposn).toNat:Int)=35:=hb0 hposn
 have h0d:(((tx[0]'hposn).toNat:Int) !=35)=false:=by rw [h0c];rfl
 have hs1:(tx.extract 1 tx.size).size≤4000:=by rw [ByteArray.size_extract];omega
 have HS1:=z0 hs1
 obtain ⟨k0,hk0,hw0⟩:∃k0,(tx.extract 1 tx.size).size<k0∧jk (k0+1) (tx.extract 1 tx.size) 0=some wl:=⟨tx.size,by rw [ByteArray.size_extract];omega,hw⟩
 have HW0:=z0 hw0
 have HK0:=z0 hk0
 have HWLL:=z0 hwl
 clear hw hw0 hb0 hk0 hs1 h1 hs h35 hwl
 go_enter Tryz.func84,Tryz.ntmps84
 go_wp2_with (fail)
 obtain ⟨w2,hw2⟩:∃w2,w2=w.alloc (Obj.cells #[Value.int IntKind.i64 7,Value.string bf,Value.string tx,Value.int IntKind.i64 at0] 95):=⟨_,rfl⟩
 rw [←hw2]
 have HB2:ah (Below w.heap.size w w2):=⟨by rw [hw2];exact aA (Below.refl _ _) _⟩
 clear hw2
 generalize tx.extract 1 tx.size=s1 at *
 obtain ⟨n1,hn1⟩:∃n1,n1=s1.size:=⟨_,rfl⟩
 have HN1:=z0 hn1
 clear hn1
 go_loopg [5,6] n1 (fun kq v5 v6 wr=>∃(pos:Nat) (out rest:List Tk) (K:Nat),v6= .int .i64 pos∧ah (kq+pos=n1)∧ah (jk (K+1) (s1.extract pos s1.size) pos=some rest)∧ah (wl=out++rest)∧ah (n1-pos<K+1)∧ah (Kd.R kTk 95 wr w.heap.size (fun _=>True) v5 out)∧ah (Below w.heap.size w wr))
 case atStart=>exact ⟨0,[],wl,k0,rfl,⟨rfl⟩,⟨by have h:=HW0.out;rw [show s1.extract 0 s1.size=s1 from by simp];exact h⟩,⟨rfl⟩,⟨by have:=HK0.out;have:=HN1.out;omega⟩,⟨Kd.gQ _ _ _ _ _⟩,HB2⟩
 case round=>
  obtain ⟨pos,out,rest,K,rfl,hki,HW,HWL,hK,hR,hB⟩:=hrel
  have hol:ah (out.length≤5000):=⟨by have h1:=HWLL.out;rw [HWL.out,List.length_append] at h1;omega⟩
  obtain ⟨G,hGG⟩:∃G,G=gk:=⟨_,rfl⟩
  subst hGG
  have hki':=hki.out
  have hn4:n1≤4000:=by have:=HS1.out;have:=HN1.out;omega
  have hn1':=HN1.out
  obtain ⟨s',hs'⟩:∃s',s'=s1.extract pos s1.size:=⟨_,rfl⟩
  have hs's:s'.size=n1-pos:=by rw [hs',ByteArray.size_extract];omega
  have hsz:(⟨#[59]⟩++s':ByteArray).size=s'.size+1:=by rw [ByteArray.size_append];have:(⟨#[59]⟩:ByteArray).size=1:=rfl;omega
  obtain ⟨init,e,e1,e2,e3,e4⟩:=xC s' (by omega)
  have hbl:(behind s').length=init.length+1:=by rw [e1];simp
  obtain ⟨r1,r2,r3⟩:=Bh K s' pos out rest (by omega) (by omega) (by omega) (by omega) (by rw [hs'];exact HW.out)
  have H46:=yU (⟨#[59]⟩++s') wr (by omega)
  rw [r1,r2] at H46
  obtain ⟨ys,hys⟩:∃ys,ys=((6:Int),(⟨#[]⟩:ByteArray),(⟨#[59]⟩:ByteArray),(0:Int))::behind s':=⟨_,rfl⟩
  rw [←hys] at H46
  obtain ⟨Y,hY⟩:∃Y,Y=ys.length:=⟨_,rfl⟩
  have hYn:Y=init.length+2:=by rw [hY,hys,List.length_cons,hbl]
  have HYS:=z0 hys
  have HYL:=z0 hY
  have HYN:=z0 (And.intro hYn e4)
  have HR3:=z0 r3
  have HE:=z0 (And.intro e1 (And.intro e2 e3))
  have hs59:=z0 hs'
  have HSS:=z0 hs's
  clear r1 r2 r3 e1 e2 e3 hbl hys hY hYn
  have hpn:pos≤n1:=by omega
  have hposs:(pos:Int)≤(s1.size:Int):=by omega
  have hpos0:(0:Int)≤(pos:Int):=by omega
  rw [hs'] at H46
  have q1:(9223372036854775807<1+(s1.size-pos))=False:=eq_false (by omega)
  have hY1:2≤Y:=by have:=HYN.out.1;omega
  clear hs' hsz hs's e4 hn1'
  go_wp2_with (go_at_call 46;go_loud (refine H46.mono ?_;rintro e w3 ⟨v3,rfl,hc3,hb3⟩;obtain ⟨A3,c3,rfl⟩:=Kd.bF hc3;rw [←HYL.out] at hc3 ⊢;have HC3:ah (Kd.R kTk 95 w3 wr.heap.size (fun k=>wr.heap.size≤k∧k<w3.heap.size) (.slice A3 Y c3) ys):=⟨Kd.fM (Kd.iJ hc3) (fun k hk=>⟨hk.2.1,hk.2.2.1⟩)⟩;have HB3:=z0 (ak hB.out hb3);have HR3':ah (Kd.R kTk 95 w3 w.heap.size (fun k=>k<wr.heap.size∨w3.heap.size≤k) u5 out):=⟨Kd.dn (Kd.fM (Kd.iJ hR.out) (fun k hk=> .inl hk.2.2.1)) hb3⟩;clear hc3 hb3))
  clear H46
  obtain ⟨L0,hL0⟩:∃L0,L0=wr.heap.size:=⟨_,rfl⟩
  obtain ⟨L1,hL1⟩:∃L1,L1=w3.heap.size:=⟨_,rfl⟩
  rw [←hL0,←hL1] at HC3 HR3'
  have HL1:ah (L1≤w3.heap.size):=⟨by omega⟩
  clear hL0 hL1
  have hpo:=hol
  go_loopg [5,6,9,10] (Y-1) (fun kq v5 v6 v9 v10 w4=>∃(i:Nat) (ag:Bool) (po:Nat) (o:List Tk),v10= .int .i64 i∧v9= .bool ag∧v6= .int .i64 po∧ah (kq+i=Y)∧ah (1≤i)∧ah (Kd.R kTk 95 w4 w.heap.size (fun k=>k<L0∨L1≤k) v5 o)∧ah (Below w.heap.size w w4)∧ah (Kd.R kTk 95 w4 L0 (fun k=>L0≤k∧k<L1) (.slice A3 Y c3) ys∧L1≤w4.heap.size)∧ah (o.length≤100000)∧ah (ag=true→oZ pos (behind s') out=(o,some (po:Int)))∧ah (ag=false→po=pos∧oZ pos ((behind s').drop (i-1)) o=oZ pos (behind s') out∧o.length+1≤out.length+i))
  case atStart=>exact ⟨1,false,pos,out,rfl,rfl,rfl,⟨by omega⟩,⟨Nat.le_refl _⟩,HR3',HB3,⟨HC3.out,HL1.out⟩,⟨by have:=hol.out;omega⟩,⟨fun h=>by cases h⟩,⟨fun _=>⟨rfl,rfl,by omega⟩⟩⟩
  case round=>
   obtain ⟨i,ag,po,o,rfl,rfl,rfl,hki2,hi1,hR4,hB4,hB34,hol4,hag,hnag⟩:=hrel
   have hki2':=hki2.out
   cases ag with
   |true=>
    have hrw:=hag.out rfl
    have hsub:ah (∃(K':Nat) (r':List Tk),K=K'+1∧jk (K'+1) (s1.extract po s1.size) po=some r'∧out++rest=o++r'∧pos<po∧po≤n1):=⟨by
     rcases HR3.out with h|⟨o',p,r,h,hr1,hr2,hr3,hr4⟩
     · rw [hrw] at h;cases h
     · rw [hrw] at h
       simp only [Prod.mk.injEq,Option.some.injEq] at h
       obtain ⟨rfl,rfl⟩:=h
       have hss:=HSS.out
       have hn:=HN1.out
       cases K with
       |zero=>simp [jk] at hr1
       |succ K'=>
        refine ⟨K',r,rfl,?_,hr2,by omega,by omega⟩
        have:s'.extract ((po:Int)-pos).toNat s'.size=s1.extract po s1.size:=by
         apply Go.WideShapes.bytes_inj
         rw [Lib.extract_to_end,Lib.extract_to_end,hs59.out,Lib.extract_to_end,List.drop_drop,show pos+((po:Int)-pos).toNat=po by omega]
        rw [this] at hr1
        exact hr1⟩
    clear hrw hag hnag
    have hlo:n1-po<G:=by
     obtain ⟨_,_,_,_,_,h1,h2⟩:=hsub.out
     omega
    by_cases hlt0:i<Y
    · have hlt:decide ((i:Int)<(Y:Int))=true:=decide_eq_true (by omega)
      go_wp2_with (fail)
      go_roundg (n1-po)
      case measure=>omega
      case rel=>
       obtain ⟨K',r',h1,h2,h3,h4,h5⟩:=hsub.out
       have h6:=hK.out
       exact ⟨po,o,r',K',(by first|rfl|simp),⟨by omega⟩,⟨h2⟩,⟨by rw [HWL.out,h3]⟩,⟨by omega⟩,⟨Kd.fM hR4.out (fun _ _=>trivial)⟩,hB4⟩
    · have hlt:decide ((i:Int)<(Y:Int))=false:=decide_eq_false (by omega)
      go_wp2_with (fail)
      go_roundg (n1-po)
      case measure=>omega
      case rel=>
       obtain ⟨K',r',h1,h2,h3,h4,h5⟩:=hsub.out
       have h6:=hK.out
       exact ⟨po,o,r',K',(by first|rfl|simp),⟨by omega⟩,⟨h2⟩,⟨by rw [HWL.out,h3]⟩,⟨by omega⟩,⟨Kd.fM hR4.out (fun _ _=>trivial)⟩,hB4⟩
   |false=>
    obtain ⟨g1,g2,g3⟩:=hnag.out rfl
    subst g1
    have G23:=z0 (And.intro g2 g3)
    clear g2 g3 hag hnag
    cases gk with
    |zero=>
     have hlt:decide ((i:Int)<(Y:Int))=false:=decide_eq_false (by omega)
     have hres:ah (o=wl):=⟨by
      have hd:(behind s').drop (i-1)=[]:=List.drop_eq_nil_of_le (by have:=HYN.out.1;have:=HE.out.1;rw [this];simp;omega)
      have h2:=G23.out.1
      rw [hd,oZ] at h2
      rcases HR3.out with h|⟨o',p,r,h,_⟩
      · rw [h] at h2
        simp only [Prod.mk.injEq,and_true] at h2
        rw [HWL.out];exact h2
      · rw [h] at h2;cases h2⟩
     go_wp2_with (fail)
     go_ret2
     exact ⟨_,rfl,by rw [←hres.out];exact Kd.fM hR4.out (fun _ _=>trivial),hB4.out⟩
    |succ g5=>
     have hlt:decide ((i:Int)<(Y:Int))=true:=decide_eq_true (by omega)
     have hii:(0:Int)≤(i:Int):=by omega
     have hiY:i<Y:=by omega
     obtain ⟨x,hx⟩:∃x,(behind s')[i-1]? =some x:=⟨_,List.getElem?_eq_getElem (by have:=HYN.out.1;have:=HE.out.1;rw [this];simp;omega)⟩
     have hyx:ys[i]? =some x:=by
      rw [HYS.out,show i=i-1+1 by have:=hi1.out;omega,List.getElem?_cons_succ];exact hx
     have hdr:(behind s').drop (i-1)=x::(behind s').drop i:=by
      have hl:=(List.getElem?_eq_some_iff.1 hx).1
      rw [List.drop_eq_getElem_cons hl,(List.getElem?_eq_some_iff.1 hx).2,show i-1+1=i by have:=hi1.out;omega]
     have hxb:ah (x.1≠0→1≤x.2.2.2∧x.2.2.2≤4000):=⟨fun hne=>by
      have hxm:=List.mem_of_getElem? hx
      rw [HE.out.1] at hxm
      rcases List.mem_append.1 hxm with h|h
      · have:=HE.out.2.2 x h
        have:=HSS.out
        omega
      · rw [List.mem_singleton.1 h] at hne
        exact absurd HE.out.2.1 hne⟩
     have hCt:Kd.C kTk wr A3 ys.length ys:=(Kd.aZ hB34.out.1).2.2
     obtain ⟨ad,hAd,hx0,hx1,hx2,hx3⟩:=uz hCt i (by have:=HYL.out;omega) x hyx
     clear hCt
     obtain rfl:=hAd
     have H:=G23.out.1
     rw [hdr,oZ] at H
     clear hyx hdr hx
     obtain ⟨kd,bf2,tx2,a1⟩:=x
     simp only at hx0 hx1 hx2 hx3 H hxb
     have w1:wrap64 ((i:Int)+1)=((i+1:Nat):Int):=(OScan.wr (by omega) (by have h1:=HYN.out.1;have h2:=HYN.out.2;have h3:=HSS.out;omega)).trans (by omega)
     have h1i:=hi1.out
     by_cases hz:kd=0
     · rw [if_pos hz] at H
       have hz1:(kd==0)=true:=by simpa using hz
       have HN:=z0 H
       clear H hz
       go_wp2_with (fail)
       go_roundg g5
       case measure=>omega
       case rel=>exact ⟨i+1,false,po,o,(by rw [w1]),rfl,rfl,⟨by omega⟩,⟨by omega⟩,⟨Kd.dP hR4.out _⟩,⟨aA hB4.out _⟩,Hq hB34 _,hol4,⟨fun h=>by cases h⟩,⟨fun _=>⟨rfl,HN.out,by have:=G23.out.2;omega⟩⟩⟩
     · rw [if_neg hz] at H
       have hz1:(kd==0)=false:=by simpa using hz
       obtain ⟨b1,b2⟩:=hxb.out hz
       obtain ⟨n,rfl⟩:∃n:Nat,a1=n:=⟨a1.toNat,by omega⟩
       have HM:(n:Int)+(po:Int)-1=(n:Int)+(po:Int)-1∧n+po=n+po:=⟨rfl,rfl⟩
       replace HM:=z0 HM
       by_cases hk:kd=7
       · rw [if_pos hk] at H
         have hk1:(kd==7)=true:=by simpa using hk
         have HQ:ah (oZ po (behind s') out=(o++[((6:Int),bf2,(⟨#[35]⟩:ByteArray),(n:Int)+(po:Int)-1)],some ((n+po:Nat):Int))):=⟨H.symm.trans (JA o kd bf2 tx2 n po _ _ HM.out)⟩
         have HLO:ah (o.length+1≤100000):=⟨Hg G23.out.2 hol.out HYN.out HSS.out hn4 hiY⟩
         clear H hz hk
         go_wp2_with (at_builtin;go_loud (refine Kd.fH kTk (w0:=w) w.heap.size rfl (.tmp 72) (.tmp 74) 52 95 (.agg #[(.int .i64 0),(.string ⟨#[]⟩),(.string ⟨#[]⟩),(.int .i64 0)]) 48 rfl Tryz.underlying52 nD rfl (by decide) (by omega) u5 o (6,bf2,⟨#[35]⟩,(n:Int)+(po:Int)-1) [.int .i64 6,.string bf2,.string ⟨#[35]⟩,.int .i64 ((n:Int)+(po:Int)-1)] (fun k=>k<L0∨L1≤k) (fun _=>False) rfl (by rw [bT];rfl) (rX _ _ _ (6,bf2,⟨#[35]⟩,(n:Int)+(po:Int)-1)) (fun _ hk=>hk.elim) ?aF ?aO ?aB ?aS ?aL ?_;(case aF=>exact Hl hB34.out.2);(case aO=>exact Kd.dP hR4.out _);(case aB=>exact aA hB4.out _);(case aS=>exact aQ (aA hB4.out _));(case aL=>exact Ho hol4.out);intro v1 w6 ho hb6 hg6 _;have HR6:=z0 ho;have HB6:=z0 hb6;have HT6:=z0 (Ey hB34.out hR4.out.1 hg6);have c6:w6.cell? ⟨wr.heap.size,3,none⟩=some (.int .i64 ((n:Int)+(po:Int)-1)):=(by have hq:=hg6.block wr.heap.size (by rw [bT];exact Nat.lt_succ_self _) (fun e=>Nat.lt_irrefl _ (Kd.xJ hR4.out _ e.symm));have:=cell_of_row w6 wr.heap.size 3 _ _ _ (hq.trans (dh _ _));simpa using this);clear ho hb6 hg6))
         have e9:(o++[((6:Int),bf2,(⟨#[35]⟩:ByteArray),(n:Int)+(po:Int)-1)]).length≤100000:=by rw [List.length_append,List.length_singleton];exact HLO.out
         go_roundg g5
         case measure=>omega
         case rel=>exact ⟨i+1,true,n+po,o++[((6:Int),bf2,(⟨#[35]⟩:ByteArray),(n:Int)+(po:Int)-1)],(by first|exact Ew i|rw [w1]),rfl,rfl,⟨by omega⟩,⟨by omega⟩,HR6,HB6,HT6,⟨e9⟩,⟨fun _=>HQ.out⟩,⟨fun h=>by cases h⟩⟩
       · rw [if_neg hk] at H
         have hk1:(kd==7)=false:=by simpa using hk
         have HQ:ah (oZ po ((behind s').drop i) (o++[(kd,bf2,tx2,(n:Int)+(po:Int)-1)])=oZ po (behind s') out):=⟨by have h:=H;rw [Lp po n kd bf2 tx2 _ _ HM.out] at h;exact h⟩
         have HLO:ah (o.length+1≤100000):=⟨Hg G23.out.2 hol.out HYN.out HSS.out hn4 hiY⟩
         clear H hz hk
         go_wp2_with (at_builtin;go_loud (refine Kd.fH kTk (w0:=w) w.heap.size rfl (.tmp 62) (.tmp 64) 52 95 (.agg #[(.int .i64 0),(.string ⟨#[]⟩),(.string ⟨#[]⟩),(.int .i64 0)]) 48 rfl Tryz.underlying52 nD rfl (by decide) (by omega) u5 o (kd,bf2,tx2,(n:Int)+(po:Int)-1) [.int .i64 kd,.string bf2,.string tx2,.int .i64 ((n:Int)+(po:Int)-1)] (fun k=>k<L0∨L1≤k) (fun _=>False) rfl (by rw [bT];rfl) (rX _ _ _ (kd,bf2,tx2,(n:Int)+(po:Int)-1)) (fun _ hk=>hk.elim) ?aF ?aO ?aB ?aS ?aL ?_;(case aF=>exact Hl hB34.out.2);(case aO=>exact Kd.dP hR4.out _);(case aB=>exact aA hB4.out _);(case aS=>exact aQ (aA hB4.out _));(case aL=>exact Ho hol4.out);intro v1 w6 ho hb6 hg6 _;have HR6:=z0 ho;have HB6:=z0 hb6;have HT6:=z0 (Ey hB34.out hR4.out.1 hg6);clear ho hb6 hg6))
         have e9:(o++[(kd,bf2,tx2,(n:Int)+(po:Int)-1)]).length≤100000:=by rw [List.length_append,List.length_singleton];exact HLO.out
         have e8:(o++[(kd,bf2,tx2,(n:Int)+(po:Int)-1)]).length+1≤out.length+(i+1):=by rw [List.length_append,List.length_singleton];have:=G23.out.2;omega
         go_roundg g5
         case measure=>omega
         case rel=>exact ⟨i+1,false,po,o++[(kd,bf2,tx2,(n:Int)+(po:Int)-1)],(by first|exact Ew i|rw [w1]),rfl,rfl,⟨by omega⟩,⟨by omega⟩,HR6,HB6,HT6,⟨e9⟩,⟨fun h=>by cases h⟩,⟨fun _=>⟨rfl,HQ.out,e8⟩⟩⟩
theorem FV (at0:Int)(bf tx:ByteArray)(w:World)(h:tx.size=0∨bt tx 0≠35):
 Calls Tryz.prog 84 #[.agg #[.int .i64 7,.string bf,.string tx,.int .i64 at0]] w fun e w'=>e= .returned (.tuple #[.slice none 0 0,.int .i64 3])∧Below w.heap.size w w':=by
 have hb0:=pF tx 0
 have hsz:tx.toList.length=tx.size:=by rw [ByteArray.toList_eq];rfl
 rcases Nat.eq_zero_or_pos tx.size with h0|h0
 · have hne:(tx.toList==([]:List UInt8))=true:=by
    rw [beq_iff_eq];exact List.eq_nil_of_length_eq_zero (by omega)
   clear hb0 h
   go_enter Tryz.func84,Tryz.ntmps84
   go_wp2_with (fail)
   go_ret2
   exact ⟨rfl,aA (Below.refl _ _) _⟩
 · have hne:(tx.toList==([]:List UInt8))=false:=by
    rw [beq_eq_false_iff_ne]
    intro hn
    rw [hn] at hsz
    simp only [List.length_nil] at hsz
    omega
   have h35:bt tx 0≠35:=h.resolve_left (by omega)
   have hpos:(0:Int)<(tx.size:Int):=by omega
   have h0c:(((tx[0]'h0).toNat:Int) !=35)=true:=by rw [bne_iff_ne,show ((tx[0]'h0).toNat:Int)=bt tx 0 from hb0 h0];exact h35
   clear hb0 h
   go_enter Tryz.func84,Tryz.ntmps84
   go_wp2_with (fail)
   go_ret2
   exact ⟨rfl,aA (Below.refl _ _) _⟩
end Go.Proofs.YtolaiebjmhieiaaGreatDoor.OScan
end
section
namespace Go.Proofs.YtolaiebjmhieiaaGreatDoor.OKin
open Go.RowKit YtolaiebjmhieiaaGreatDoorW.PrintWords YtolaiebjmhieiaaGreatDoorW.PrintLast YtolaiebjmhieiaaGreatDoorW.PrintMore
attribute [local go_sem] jF jD ku jZ jc iZ jE jC
structure S95 where
 f0:Int
 f1:ByteArray
 f2:ByteArray
 f3:Int
def z95:S95:=⟨(0:Int),(⟨#[]⟩:ByteArray),(⟨#[]⟩:ByteArray),(0:Int)⟩
def k95:Kd S95:=Kd.iso (Kd.pair (Kd.int .i64) (Kd.pair Kd.string (Kd.pair Kd.string (Kd.int .i64)))) (fun x:S95=>(x.f0,x.f1,x.f2,x.f3))
theorem wX {w:World}{x:S95}{cs:List Value}(h:k95.K w x cs):cs=[.int .i64 x.f0,.string x.f1,.string x.f2,.int .i64 x.f3]:=by
 obtain ⟨_,_,rfl,rfl,⟨_,_,rfl,rfl,⟨_,_,rfl,rfl,rfl⟩⟩⟩:=h
 exact rfl
def iF (xs:List S95)(i:Int):S95:=xs.getD i.toNat z95
theorem pG {w:World}{A:Option Addr}{n:Nat}{xs:List S95}(h:Kd.C k95 w A n xs)(i:Int)(h0:0≤i)(h1:i<n):∃ad,A=some ad∧w.cell? (ad.add (i.toNat*4))=some (.int .i64 (iF xs i).f0)∧w.cell? ⟨(ad.add (i.toNat*4)).block,(ad.add (i.toNat*4)).off+1,none⟩=some (.string (iF xs i).f1)∧w.cell? ⟨(ad.add (i.toNat*4)).block,(ad.add (i.toNat*4)).off+2,none⟩=some (.string (iF xs i).f2)∧w.cell? ⟨(ad.add (i.toNat*4)).block,(ad.add (i.toNat*4)).off+3,none⟩=some (.int .i64 (iF xs i).f3):=by
 obtain ⟨ad,c,e,_,hK,hc0⟩:=Kd.pJ h z95 i h0 h1
 have hc:∀j u,c[j]? =some u→w.cell? (ad.add (i.toNat*4+j))=some u:=hc0
 obtain rfl:=wX hK
 exact ⟨ad,e,hc 0 _ rfl,by rw [←gZ _ _ 1 (by omega)];exact hc 1 _ rfl,by rw [←gZ _ _ 2 (by omega)];exact hc 2 _ rfl,by rw [←gZ _ _ 3 (by omega)];exact hc 3 _ rfl⟩
def iY (x:OScan.Tk):S95:=⟨x.1,x.2.1,x.2.2.1,x.2.2.2⟩
theorem MJ {w:World}{base:Nat}{ok:Nat→Prop}{v:Value}{xs:List OScan.Tk}(h:Kd.R OScan.kTk 95 w base ok v xs):Kd.R k95 95 w base ok v (xs.map iY):=by
 obtain ⟨h0,inner,ho,hr⟩:=h
 refine ⟨h0,inner,by rw [List.length_map];exact ho,by rw [List.length_map];exact hr.1,fun j p hp=> ?_⟩
 rw [List.getElem?_map] at hp
 obtain ⟨q,hq,rfl⟩:=Option.map_eq_some_iff.1 hp
 exact hr.2 j q hq
def gY.f (a0_0:Int)(a0_1:ByteArray)(a0_2:ByteArray)(a0_3:Int):Option ((List (S95)) × Int):=if a0_0=7∧a0_2.size≤4001 then (if a0_2.size=0∨bt a0_2 0≠35 then some ([],3) else (OScan.jk (a0_2.size+1) (a0_2.extract 1 a0_2.size) 0).map (fun r=>(r.map iY,0))) else none
theorem gY.calls (a0_0:Int)(a0_1:ByteArray)(a0_2:ByteArray)(a0_3:Int)(r1:List (S95))(r2:Int)(w:World)(h:gY.f a0_0 a0_1 a0_2 a0_3=some (r1,r2)):
 Calls Tryz.prog 84 #[.agg #[.int .i64 a0_0,.string a0_1,.string a0_2,.int .i64 a0_3]] w fun e w'=>∃v0_:Value,e= .returned (.tuple #[v0_,.int .i64 r2])∧Kd.R k95 95 w' w.heap.size (fun _=>True) v0_ r1∧Below w.heap.size w w':=by
 unfold gY.f at h
 split at h
 · rename_i hc
   obtain ⟨rfl,h2⟩:=hc
   split at h
   · rename_i h1
     injection h with h
     injection h with e1 e2
     subst e1 e2
     exact (OScan.FV a0_3 a0_1 a0_2 w h1).mono fun e w' ⟨he,hb⟩=>⟨_,he,Kd.gQ _ _ _ _ _,hb⟩
   · rename_i h1
     rw [not_or,Decidable.not_not] at h1
     obtain ⟨x,hx,he⟩:=Option.map_eq_some_iff.1 h
     simp only [Prod.mk.injEq] at he
     obtain ⟨rfl,rfl⟩:=he
     obtain ⟨r,hr,hl,_⟩:=OScan.nM (a0_2.size+1) (a0_2.extract 1 a0_2.size) 0 (by rw [ByteArray.size_extract];omega) (by rw [ByteArray.size_extract];omega)
     obtain rfl:r=x:=by rw [hx] at hr;exact (Option.some.inj hr).symm
     exact (OScan.wB a0_3 a0_1 a0_2 r w (by omega) h2 h1.2 hx (by rw [ByteArray.size_extract] at hl;omega)).mono fun e w' ⟨v,he,hr,hb⟩=>⟨v,he,MJ hr,hb⟩
 · cases h
def bD.j0:Nat→List (S95)→Bool→Option (ByteArray)
 |0,_,_=>none
 |k+1,x3,x20=>if x20=true then (some (⟨#[111,116,104,101,114]⟩:ByteArray)) else (if 0<(x3.length:Int) then ((ORef.bH.f k (([(⟨#[105,102]⟩:ByteArray),(⟨#[105,102,100,101,102]⟩:ByteArray),(⟨#[105,102,110,100,101,102]⟩:ByteArray),(⟨#[101,108,105,102]⟩:ByteArray),(⟨#[101,108,115,101]⟩:ByteArray),(⟨#[101,110,100,105,102]⟩:ByteArray),(⟨#[100,101,102,105,110,101]⟩:ByteArray),(⟨#[117,110,100,101,102]⟩:ByteArray),(⟨#[105,110,99,108,117,100,101]⟩:ByteArray)]:List ByteArray)) ((iF x3 0).f2)).bind fun t111=>(if t111≥0 then (some ((iF x3 0).f2)) else (some (⟨#[111,116,104,101,114]⟩:ByteArray)))) else (none))
def bD.f (k:Nat)(a0_0:Int)(a0_1:ByteArray)(a0_2:ByteArray)(a0_3:Int):Option (ByteArray):=if a0_0=7 then ((gY.f a0_0 a0_1 a0_2 a0_3).bind fun bt103=>(if bt103.2=0 then (bD.j0 k bt103.1 ((bt103.1.length:Int)==0)) else (bD.j0 k bt103.1 true))) else (some (⟨#[]⟩:ByteArray))
theorem bD.calls (k:Nat)(a0_0:Int)(a0_1:ByteArray)(a0_2:ByteArray)(a0_3:Int)(r:ByteArray)(w:World)(h:bD.f k a0_0 a0_1 a0_2 a0_3=some r):
 Calls Tryz.prog 83 #[.agg #[.int .i64 a0_0,.string a0_1,.string a0_2,.int .i64 a0_3]] w fun e w'=>e= .returned (.string r)∧Below w.heap.size w w':=by
 have hu95:=Tryz.underlying95
 have HB:=z0 (Below.refl w.heap.size w)
 have H:=h
 clear h
 unfold bD.f at H
 replace H:=ze H
 rcases H with ⟨c2b0,c2b1,H⟩|⟨c2b0,c2b1,H⟩
 · replace H:=zo H
   obtain ⟨⟨t103,t106⟩,A3,H⟩:=H
   (try dsimp only at H)
   have HC4:=z0 H
   clear H
   go_enter Tryz.func83,Tryz.ntmps83
   go_upto_region 4 with (first|((with_reducible refine iP (N:=1) rfl ?_);(try (refine jy (by rfl) ?_;dsimp only));refine jP ?hg (N:=1) ?hd (cs:= #[.int .i64 a0_0,.string a0_1,.string a0_2,.int .i64 a0_3]) (t:=95) ?hr ?_;(case hd=>rfl);(case hg=>rfl);(case hr=>first|(go_simp;done)|(go_simp;rfl));intro gb102 hg w5 hbox hb;have n0_:=z0 (ak zw hb);have n1_:=z0 (hbox);have n2_:=z0 ((by rw [hg];exact (aQ zw):w.heap.size≤gb102));have n3_:=z0 ((by rw [hg];exact (aQ zw):w.heap.size≤gb102));revert n0_ n1_ n2_ n3_;clear HB;intro HB BK102 GW102 GE102;clear hb hbox hg;have hcz6_0:w5.cell? ⟨gb102,0,none⟩=some (.int .i64 a0_0):=(aC BK102.out 0).trans rfl;have hcz6_1:w5.cell? ⟨gb102,1,none⟩=some (.string a0_1):=(aC BK102.out 1).trans rfl;have hcz6_2:w5.cell? ⟨gb102,2,none⟩=some (.string a0_2):=(aC BK102.out 2).trans rfl;have hcz6_3:w5.cell? ⟨gb102,3,none⟩=some (.int .i64 a0_3):=(aC BK102.out 3).trans rfl;have hfz6_0:=aj BK102.out 0;have hfz6_1:=aj BK102.out 1;have hfz6_2:=aj BK102.out 2;have hfz6_3:=aj BK102.out 3)|(refine zc 11 rfl Tryz.func84 #[.agg #[.int .i64 a0_0,.string a0_1,.string a0_2,.int .i64 a0_3]] ?_;(with_reducible refine (gY.calls a0_0 a0_1 a0_2 a0_3 t103 t106 _ A3.out).mono ?_);rintro e w7 ⟨v104,rfl,ho0,hb⟩;refine ⟨_,rfl,?_⟩;have n0_:=z0 (Kd.fZ (Kd.xI ho0 (g:=gb102) (o:= .cells #[.int .i64 a0_0,.string a0_1,.string a0_2,.int .i64 a0_3] 95 (0,0)) (by (with_reducible repeat (first|refine gV ?_ _|refine dF ?_|refine dN ?_ _));exact BK102.out)) (aQ zw));have n1_:=z0 (gW (g:=gb102) (o:= .cells #[.int .i64 a0_0,.string a0_1,.string a0_2,.int .i64 a0_3] 95 (0,0)) (by (with_reducible repeat (first|refine gV ?_ _|refine dF ?_|refine dN ?_ _));exact BK102.out) hb);have n2_:=z0 (ak zw hb);revert n0_ n1_ n2_;clear BK102 HB;intro HO105 BK102 HB;(try clear hb);(try clear hk);(try clear hi);(try clear ho0)))
   (try simp only [Act.put,List.setIfInBounds_toArray,List.set_cons_zero,List.set_cons_succ])
   go_cut [20] (fun v20 wc=>∃(kq:Nat) (x20_3:Bool),v20= .bool x20_3∧ah (bD.j0 kq t103 x20_3=some r)∧ah (kq≤k)∧ah (Kd.R k95 95 wc w.heap.size (fun k_=>k_≠gb102) v104 t103)∧ah (wc.heap[gb102]? =some (.cells #[.int .i64 a0_0,.string a0_1,.string a0_2,.int .i64 a0_3] 95 (0,0)))∧ah (Below w.heap.size w wc))
   case first=>
    have H:=HC4.out
    clear HC4
    replace H:=ze H
    rcases H with ⟨c8b0,c8b1,H⟩|⟨c8b0,c8b1,H⟩
    · (first|rw [c8b0]|(simp only [dZ,fG];rw [c8b0])|skip)
      have H':=z0 H
      clear H
      obtain ⟨Ao9,co9,eo9⟩:=Kd.bF HO105.out
      subst eo9
      go_wp2
      go_meet
      case rel=>exact ⟨_,(((t103.length:Int)==0)),zr,H',⟨by first|omega|exact Nat.le_refl _⟩,⟨by (with_reducible repeat (first|apply Kd.dP|apply Kd.dS|apply Kd.fU));exact Kd.fM HO105.out (fun _ hk=>hk.2)⟩,⟨by (with_reducible repeat (first|refine gV ?_ _|refine dF ?_|refine dN ?_ _));exact BK102.out⟩,⟨zw⟩⟩
    · (first|rw [c8b0]|(simp only [dZ,fG];rw [c8b0])|skip)
      have H':=z0 H
      clear H
      go_wp2
      go_meet
      case rel=>exact ⟨_,(true),zr,H',⟨by first|omega|exact Nat.le_refl _⟩,⟨by (with_reducible repeat (first|apply Kd.dP|apply Kd.dS|apply Kd.fU));exact Kd.fM HO105.out (fun _ hk=>hk.2)⟩,⟨by (with_reducible repeat (first|refine gV ?_ _|refine dF ?_|refine dN ?_ _));exact BK102.out⟩,⟨zw⟩⟩
   case rest=>
    clear HC4
    obtain ⟨kq,x20_3,rfl,HA,HJ3,HO_3,BK102,HB⟩:=hcut
    cases kq with
    |zero=>exact absurd HA.out (by simp [bD.j0])
    |succ kj3=>
     have H:=HA.out
     clear HA
     simp only [bD.j0] at H
     by_cases c10:x20_3=true
     · subst c10
       rw [if_pos rfl] at H
       obtain rfl:=Option.some.inj H
       go_wp2
       go_ret
       exact ⟨zv,zw⟩
     · replace c10:=Bool.eq_false_iff.mpr c10
       subst c10
       rw [if_neg nofun] at H
       obtain ⟨y107,hy107⟩:∃y_:List ByteArray,y_=(([(⟨#[105,102]⟩:ByteArray),(⟨#[105,102,100,101,102]⟩:ByteArray),(⟨#[105,102,110,100,101,102]⟩:ByteArray),(⟨#[101,108,105,102]⟩:ByteArray),(⟨#[101,108,115,101]⟩:ByteArray),(⟨#[101,110,100,105,102]⟩:ByteArray),(⟨#[100,101,102,105,110,101]⟩:ByteArray),(⟨#[117,110,100,101,102]⟩:ByteArray),(⟨#[105,110,99,108,117,100,101]⟩:ByteArray)]:List ByteArray)):=⟨_,rfl⟩
       replace H:(if 0<(t103.length:Int) then ((ORef.bH.f kj3 y107 ((iF t103 0).f2)).bind fun t111=>(if t111≥0 then (some ((iF t103 0).f2)) else (some (⟨#[111,116,104,101,114]⟩:ByteArray)))) else (none))=some r:=by first|(rw [hy107];with_reducible exact H)|(have H2_:=(Option.bind_some _ _).symm.trans H;rw [hy107];with_reducible exact H2_)|(have H2_:=(Option.bind_some _ _).symm.trans H;with_reducible exact H2_)|with_reducible exact H|(rw [hy107];exact H)|exact H
       have Ny107:=z0 hy107
       clear hy107
       by_cases c11:0<(t103.length:Int)
       · rw [if_pos c11] at H
         have c11b0:decide (0<(t103.length:Int))=true:=decide_eq_true c11
         have c11b1:decide (0<t103.length)=true:=decide_eq_true (by omega)
         clear c11
         replace H:=zo H
         obtain ⟨t111,A12,H⟩:=H
         (try dsimp only at H)
         replace H:=zg H
         rcases H with ⟨c13b0,H⟩|⟨c13b0,H⟩
         · obtain rfl:=Option.some.inj H
           go_wp2_with (first|((with_reducible refine iP (N:=21) rfl ?_);(try (refine jy (by rfl) ?_;dsimp only));refine Kd.xK Kd.string _ 9 ?hg (N:=21) ?hd (xs:=([(⟨#[105,102]⟩:ByteArray),(⟨#[105,102,100,101,102]⟩:ByteArray),(⟨#[105,102,110,100,101,102]⟩:ByteArray),(⟨#[101,108,105,102]⟩:ByteArray),(⟨#[101,108,115,101]⟩:ByteArray),(⟨#[101,110,100,105,102]⟩:ByteArray),(⟨#[100,101,102,105,110,101]⟩:ByteArray),(⟨#[117,110,100,101,102]⟩:ByteArray),(⟨#[105,110,99,108,117,100,101]⟩:ByteArray)]:List ByteArray)) (inner:=[.string (⟨#[105,102]⟩:ByteArray),.string (⟨#[105,102,100,101,102]⟩:ByteArray),.string (⟨#[105,102,110,100,101,102]⟩:ByteArray),.string (⟨#[101,108,105,102]⟩:ByteArray),.string (⟨#[101,108,115,101]⟩:ByteArray),.string (⟨#[101,110,100,105,102]⟩:ByteArray),.string (⟨#[100,101,102,105,110,101]⟩:ByteArray),.string (⟨#[117,110,100,101,102]⟩:ByteArray),.string (⟨#[105,110,99,108,117,100,101]⟩:ByteArray)]) (ok:=fun _=>True) (okp:=fun _=>True) ?hr ?hp (fun _ hk=>hk) trivial (Below.refl _ _) (Nat.le_refl _) (by simp) ?_;(case hd=>rfl);(case hg=>rfl);(case hr=>first|(go_simp;done)|(go_simp;rfl));(case hp=>exact (dJ.one (show Kd.M Kd.string _ _ _ (⟨#[105,102]⟩:ByteArray) [.string (⟨#[105,102]⟩:ByteArray)] from rfl) (dJ.one (show Kd.M Kd.string _ _ _ (⟨#[105,102,100,101,102]⟩:ByteArray) [.string (⟨#[105,102,100,101,102]⟩:ByteArray)] from rfl) (dJ.one (show Kd.M Kd.string _ _ _ (⟨#[105,102,110,100,101,102]⟩:ByteArray) [.string (⟨#[105,102,110,100,101,102]⟩:ByteArray)] from rfl) (dJ.one (show Kd.M Kd.string _ _ _ (⟨#[101,108,105,102]⟩:ByteArray) [.string (⟨#[101,108,105,102]⟩:ByteArray)] from rfl) (dJ.one (show Kd.M Kd.string _ _ _ (⟨#[101,108,115,101]⟩:ByteArray) [.string (⟨#[101,108,115,101]⟩:ByteArray)] from rfl) (dJ.one (show Kd.M Kd.string _ _ _ (⟨#[101,110,100,105,102]⟩:ByteArray) [.string (⟨#[101,110,100,105,102]⟩:ByteArray)] from rfl) (dJ.one (show Kd.M Kd.string _ _ _ (⟨#[100,101,102,105,110,101]⟩:ByteArray) [.string (⟨#[100,101,102,105,110,101]⟩:ByteArray)] from rfl) (dJ.one (show Kd.M Kd.string _ _ _ (⟨#[117,110,100,101,102]⟩:ByteArray) [.string (⟨#[117,110,100,101,102]⟩:ByteArray)] from rfl) (dJ.one (show Kd.M Kd.string _ _ _ (⟨#[105,110,99,108,117,100,101]⟩:ByteArray) [.string (⟨#[105,110,99,108,117,100,101]⟩:ByteArray)] from rfl) (dJ.none _ _)))))))))));intro v108 w14 ho15 hb hg_ hnew_;clear hg_ hnew_;(first|rw [←Ny107.out] at ho15|(simp only [Int.reduceToNat] at ho15;rw [←Ny107.out] at ho15));have n0_:=z0 (Kd.dn (by (with_reducible repeat (first|apply Kd.dP|apply Kd.dS|apply Kd.fU));exact HO_3.out) hb);have n1_:=z0 (Kd.fZ ho15 (aQ zw));have n2_:=z0 (gW (g:=gb102) (o:= .cells #[.int .i64 a0_0,.string a0_1,.string a0_2,.int .i64 a0_3] 95 (0,0)) (by (with_reducible repeat (first|refine gV ?_ _|refine dF ?_|refine dN ?_ _));exact BK102.out) hb);have n3_:=z0 (ak zw hb);revert n0_ n1_ n2_ n3_;clear HO_3 BK102 HB;intro HO_3 HO109 BK102 HB;clear hb ho15;obtain ⟨Ao16,co16,eo16⟩:=Kd.bF HO_3.out;subst eo16;have p110:0≤(0:Int):=(by omega);have q110:0<(t103.length:Int):=of_decide_eq_true (by first|(with_reducible assumption)|assumption);obtain ⟨ad110,e110,hx110_0,hx110_1,hx110_2,hx110_3⟩:=pG (Kd.aZ HO_3.out).2.2 0 p110 q110;cases e110;have qi110:(0<t103.length)=True:=eq_true (by omega);(try rw [show ((0:Int)).toNat=0 from rfl] at hx110_0);(try rw [show 0*4=0 from rfl] at hx110_0);(try rw [Addr.add_zero'] at hx110_0);(try rw [show ((0:Int)).toNat=0 from rfl] at hx110_1);(try rw [show 0*4=0 from rfl] at hx110_1);(try rw [Addr.add_zero'] at hx110_1);(try rw [show ((0:Int)).toNat=0 from rfl] at hx110_2);(try rw [show 0*4=0 from rfl] at hx110_2);(try rw [Addr.add_zero'] at hx110_2);(try rw [show ((0:Int)).toNat=0 from rfl] at hx110_3);(try rw [show 0*4=0 from rfl] at hx110_3);(try rw [Addr.add_zero'] at hx110_3);replace p110:=eq_true p110;replace q110:=eq_true q110;obtain ⟨Ao17,co17,eo17⟩:=Kd.bF HO109.out;subst eo17)|(refine zc 27 rfl Tryz.func19 #[.slice Ao17 y107.length co17,.string ((iF t103 0).f2)] ?_;(with_reducible refine (ORef.bH.calls kj3 _ _ y107 ((iF t103 0).f2) t111 _ ?side1 ?side2 A12.out).mono ?_);(case side1=>repeat (first|exact (Kd.aZ HO109.out).2.2|(with_reducible refine Kd.C_alloc ?_ _)|(with_reducible refine Kd.lN ?_ _)|(with_reducible refine Kd.C_drew ?_)));(case side2=>exact (Kd.aZ HO109.out).2.1);rintro e w' ⟨rfl,⟨nd,rfl⟩⟩;refine ⟨_,rfl,?_⟩;have p112:0≤(0:Int):=(by omega);have q112:0<(t103.length:Int):=of_decide_eq_true (by first|(with_reducible assumption)|assumption);obtain ⟨ad112,e112,hx112_0,hx112_1,hx112_2,hx112_3⟩:=pG (Kd.aZ HO_3.out).2.2 0 p112 q112;obtain rfl:ad110=ad112:=(by injection e112);have qi112:(0<t103.length)=True:=eq_true (by omega);(try rw [show ((0:Int)).toNat=0 from rfl] at hx112_0);(try rw [show 0*4=0 from rfl] at hx112_0);(try rw [Addr.add_zero'] at hx112_0);(try rw [show ((0:Int)).toNat=0 from rfl] at hx112_1);(try rw [show 0*4=0 from rfl] at hx112_1);(try rw [Addr.add_zero'] at hx112_1);(try rw [show ((0:Int)).toNat=0 from rfl] at hx112_2);(try rw [show 0*4=0 from rfl] at hx112_2);(try rw [Addr.add_zero'] at hx112_2);(try rw [show ((0:Int)).toNat=0 from rfl] at hx112_3);(try rw [show 0*4=0 from rfl] at hx112_3);(try rw [Addr.add_zero'] at hx112_3);replace p112:=eq_true p112;replace q112:=eq_true q112))
           go_ret
           exact ⟨zv,zw⟩
         · obtain rfl:=Option.some.inj H
           go_wp2_with (first|((with_reducible refine iP (N:=21) rfl ?_);(try (refine jy (by rfl) ?_;dsimp only));refine Kd.xK Kd.string _ 9 ?hg (N:=21) ?hd (xs:=([(⟨#[105,102]⟩:ByteArray),(⟨#[105,102,100,101,102]⟩:ByteArray),(⟨#[105,102,110,100,101,102]⟩:ByteArray),(⟨#[101,108,105,102]⟩:ByteArray),(⟨#[101,108,115,101]⟩:ByteArray),(⟨#[101,110,100,105,102]⟩:ByteArray),(⟨#[100,101,102,105,110,101]⟩:ByteArray),(⟨#[117,110,100,101,102]⟩:ByteArray),(⟨#[105,110,99,108,117,100,101]⟩:ByteArray)]:List ByteArray)) (inner:=[.string (⟨#[105,102]⟩:ByteArray),.string (⟨#[105,102,100,101,102]⟩:ByteArray),.string (⟨#[105,102,110,100,101,102]⟩:ByteArray),.string (⟨#[101,108,105,102]⟩:ByteArray),.string (⟨#[101,108,115,101]⟩:ByteArray),.string (⟨#[101,110,100,105,102]⟩:ByteArray),.string (⟨#[100,101,102,105,110,101]⟩:ByteArray),.string (⟨#[117,110,100,101,102]⟩:ByteArray),.string (⟨#[105,110,99,108,117,100,101]⟩:ByteArray)]) (ok:=fun _=>True) (okp:=fun _=>True) ?hr ?hp (fun _ hk=>hk) trivial (Below.refl _ _) (Nat.le_refl _) (by simp) ?_;(case hd=>rfl);(case hg=>rfl);(case hr=>first|(go_simp;done)|(go_simp;rfl));(case hp=>exact (dJ.one (show Kd.M Kd.string _ _ _ (⟨#[105,102]⟩:ByteArray) [.string (⟨#[105,102]⟩:ByteArray)] from rfl) (dJ.one (show Kd.M Kd.string _ _ _ (⟨#[105,102,100,101,102]⟩:ByteArray) [.string (⟨#[105,102,100,101,102]⟩:ByteArray)] from rfl) (dJ.one (show Kd.M Kd.string _ _ _ (⟨#[105,102,110,100,101,102]⟩:ByteArray) [.string (⟨#[105,102,110,100,101,102]⟩:ByteArray)] from rfl) (dJ.one (show Kd.M Kd.string _ _ _ (⟨#[101,108,105,102]⟩:ByteArray) [.string (⟨#[101,108,105,102]⟩:ByteArray)] from rfl) (dJ.one (show Kd.M Kd.string _ _ _ (⟨#[101,108,115,101]⟩:ByteArray) [.string (⟨#[101,108,115,101]⟩:ByteArray)] from rfl) (dJ.one (show Kd.M Kd.string _ _ _ (⟨#[101,110,100,105,102]⟩:ByteArray) [.string (⟨#[101,110,100,105,102]⟩:ByteArray)] from rfl) (dJ.one (show Kd.M Kd.string _ _ _ (⟨#[100,101,102,105,110,101]⟩:ByteArray) [.string (⟨#[100,101,102,105,110,101]⟩:ByteArray)] from rfl) (dJ.one (show Kd.M Kd.string _ _ _ (⟨#[117,110,100,101,102]⟩:ByteArray) [.string (⟨#[117,110,100,101,102]⟩:ByteArray)] from rfl) (dJ.one (show Kd.M Kd.string _ _ _ (⟨#[105,110,99,108,117,100,101]⟩:ByteArray) [.string (⟨#[105,110,99,108,117,100,101]⟩:ByteArray)] from rfl) (dJ.none _ _)))))))))));intro v108 w18 ho19 hb hg_ hnew_;clear hg_ hnew_;(first|rw [←Ny107.out] at ho19|(simp only [Int.reduceToNat] at ho19;rw [←Ny107.out] at ho19));have n0_:=z0 (Kd.dn (by (with_reducible repeat (first|apply Kd.dP|apply Kd.dS|apply Kd.fU));exact HO_3.out) hb);have n1_:=z0 (Kd.fZ ho19 (aQ zw));have n2_:=z0 (gW (g:=gb102) (o:= .cells #[.int .i64 a0_0,.string a0_1,.string a0_2,.int .i64 a0_3] 95 (0,0)) (by (with_reducible repeat (first|refine gV ?_ _|refine dF ?_|refine dN ?_ _));exact BK102.out) hb);have n3_:=z0 (ak zw hb);revert n0_ n1_ n2_ n3_;clear HO_3 BK102 HB;intro HO_3 HO109 BK102 HB;clear hb ho19;obtain ⟨Ao20,co20,eo20⟩:=Kd.bF HO_3.out;subst eo20;have p110:0≤(0:Int):=(by omega);have q110:0<(t103.length:Int):=of_decide_eq_true (by first|(with_reducible assumption)|assumption);obtain ⟨ad110,e110,hx110_0,hx110_1,hx110_2,hx110_3⟩:=pG (Kd.aZ HO_3.out).2.2 0 p110 q110;cases e110;have qi110:(0<t103.length)=True:=eq_true (by omega);(try rw [show ((0:Int)).toNat=0 from rfl] at hx110_0);(try rw [show 0*4=0 from rfl] at hx110_0);(try rw [Addr.add_zero'] at hx110_0);(try rw [show ((0:Int)).toNat=0 from rfl] at hx110_1);(try rw [show 0*4=0 from rfl] at hx110_1);(try rw [Addr.add_zero'] at hx110_1);(try rw [show ((0:Int)).toNat=0 from rfl] at hx110_2);(try rw [show 0*4=0 from rfl] at hx110_2);(try rw [Addr.add_zero'] at hx110_2);(try rw [show ((0:Int)).toNat=0 from rfl] at hx110_3);(try rw [show 0*4=0 from rfl] at hx110_3);(try rw [Addr.add_zero'] at hx110_3);replace p110:=eq_true p110;replace q110:=eq_true q110;obtain ⟨Ao21,co21,eo21⟩:=Kd.bF HO109.out;subst eo21)|(refine zc 27 rfl Tryz.func19 #[.slice Ao21 y107.length co21,.string ((iF t103 0).f2)] ?_;(with_reducible refine (ORef.bH.calls kj3 _ _ y107 ((iF t103 0).f2) t111 _ ?side1 ?side2 A12.out).mono ?_);(case side1=>repeat (first|exact (Kd.aZ HO109.out).2.2|(with_reducible refine Kd.C_alloc ?_ _)|(with_reducible refine Kd.lN ?_ _)|(with_reducible refine Kd.C_drew ?_)));(case side2=>exact (Kd.aZ HO109.out).2.1);rintro e w' ⟨rfl,⟨nd,rfl⟩⟩;refine ⟨_,rfl,?_⟩))
           go_ret
           exact ⟨zv,zw⟩
       · rw [if_neg c11] at H
         cases H
 · obtain rfl:=Option.some.inj H
   go_enter Tryz.func83,Tryz.ntmps83
   go_wp2_with (first|((with_reducible refine iP (N:=1) rfl ?_);(try (refine jy (by rfl) ?_;dsimp only));refine jP ?hg (N:=1) ?hd (cs:= #[.int .i64 a0_0,.string a0_1,.string a0_2,.int .i64 a0_3]) (t:=95) ?hr ?_;(case hd=>rfl);(case hg=>rfl);(case hr=>first|(go_simp;done)|(go_simp;rfl));intro gb102 hg w22 hbox hb;have n0_:=z0 (ak zw hb);have n1_:=z0 (hbox);have n2_:=z0 ((by rw [hg];exact (aQ zw):w.heap.size≤gb102));have n3_:=z0 ((by rw [hg];exact (aQ zw):w.heap.size≤gb102));revert n0_ n1_ n2_ n3_;clear HB;intro HB BK102 GW102 GE102;clear hb hbox hg;have hcz23_0:w22.cell? ⟨gb102,0,none⟩=some (.int .i64 a0_0):=(aC BK102.out 0).trans rfl;have hcz23_1:w22.cell? ⟨gb102,1,none⟩=some (.string a0_1):=(aC BK102.out 1).trans rfl;have hcz23_2:w22.cell? ⟨gb102,2,none⟩=some (.string a0_2):=(aC BK102.out 2).trans rfl;have hcz23_3:w22.cell? ⟨gb102,3,none⟩=some (.int .i64 a0_3):=(aC BK102.out 3).trans rfl;have hfz23_0:=aj BK102.out 0;have hfz23_1:=aj BK102.out 1;have hfz23_2:=aj BK102.out 2;have hfz23_3:=aj BK102.out 3))
   go_ret
   exact ⟨zv,zw⟩
end Go.Proofs.YtolaiebjmhieiaaGreatDoor.OKin
end
