/- Parts of the proof of HeadUsers; no condition. -/
import Derived.Test.YtolaiebjmhieiaaGreatDoorM01
import Derived.Test.YtolaiebjmhieiaaGreatDoorM02
import Derived.Laws.EntriesVeiled
import Derived.BigRegion
import Derived.Lib.PathFns
import Derived.Shelf.Strings.Trim
import Derived.Shelf.Small.Utf8
import Derived.Shelf.Small.Bits
import Derived.Shelf.Small.Strs
import Derived.Shelf.Utf8.RuneCount
import Derived.Shelf.Strconv.Itoa0
import Derived.Shelf.Strings.Search1
import Derived.Shelf.Strings.Search2
import Derived.Shelf.Strings.Search3
import Derived.Shelf.Strings.Count
import Derived.Shelf.LaysM
import Derived.Shelf.Strings.Shaped
import Derived.Shelf.Strings.Split
import Derived.Shelf.Strings.Fields
import Derived.Shelf.Strings.SplitShaped
import Derived.Shelf.Strings.Runes
import Derived.Shelf.Strings.RuneCount
import Derived.Shelf.Strings.AsciiSet
import Derived.Shelf.Strings.Explode
import Derived.Ground.Names2Prog
import Derived.Shelf.Slices.ReverseS
import Derived.Shelf.Slices.Clone
import Derived.Shelf.Slices.Cells
import Derived.Test.YtolaiebjmhieiaaGreatDoorProg
import Derived.Ground.NamesProg
import Derived.Lib.AppendIntMem
import Derived.Below
import Derived.Deep.Draws
import Derived.Deep.AppendLies
import Derived.Maps.AppendAt
import Derived.OwnWalk
import Derived.Laws.BytesArg
import Derived.Laws.MakeOwn
import Derived.Laws.OwnMore
import Derived.Deep.OwnRows
import Derived.Tactics
import Derived.Lib.ConvBytes
import Derived.Laws.Slices
import Derived.WalkKit
import Derived.KernelRfl
import Derived.RowKit3
import Derived.Deep.LoopGhost
import Derived.Deep.QuietTactic
import Derived.BigQuiet
import Derived.WideLaws
import Derived.Deep.DeepCutAuto
import Derived.Deep.CutBlock
import Derived.Deep.RegionHeld3
import Derived.Laws.Rows
import Derived.Lib.AppendStr
import Derived.ArgAppend
import Derived.Laws.IdiomCopy
import Derived.OrdersHeld
import Derived.Laws.BitsLemmas
import Derived.RowKit
set_option maxHeartbeats 8000000
set_option maxRecDepth 100000
set_option linter.unusedVariables false
set_option linter.unusedSimpArgs false
section
namespace Go.Proofs.YtolaiebjmhieiaaGreatDoor.OScan
open Go.RowKit YtolaiebjmhieiaaGreatDoorW.PrintWords YtolaiebjmhieiaaGreatDoorW.PrintLast YtolaiebjmhieiaaGreatDoorW.PrintMore
attribute [local go_sem] jF jD ku jZ jc iZ jE jC
def stringslite_HasSuffix.f (a0:ByteArray)(a1:ByteArray):Option (Bool):=if (a0.size:Int)≥(a1.size:Int) then (if 0≤(wrap64 ((a0.size:Int)-(a1.size:Int))) then (if (wrap64 ((a0.size:Int)-(a1.size:Int)))≤(a0.size:Int) then (some ((a0.extract ((wrap64 ((a0.size:Int)-(a1.size:Int))):Int).toNat a0.size).toList==a1.toList)) else (none)) else (none)) else (some false)
theorem stringslite_HasSuffix.calls (a0:ByteArray)(a1:ByteArray)(r:Bool)(w:World)(h:stringslite_HasSuffix.f a0 a1=some r):
 Calls Tryz.prog 190 #[.string a0,.string a1] w fun e w'=>e= .returned (.bool r)∧dM w w':=by
 have H:=h
 clear h
 unfold stringslite_HasSuffix.f at H
 by_cases c3:(a0.size:Int)≥(a1.size:Int)
 · rw [if_pos c3] at H
   have c3b0:decide ((a1.size:Int)≤(a0.size:Int))=true:=decide_eq_true c3
   have c3b1:decide (a1.size≤a0.size)=true:=decide_eq_true (Int.ofNat_le.mp c3)
   clear c3
   generalize hji4:(wrap64 ((a0.size:Int)-(a1.size:Int)))=ji4 at H
   have hji4w:(IntKind.i64.wrap ((a0.size:Int)-(a1.size:Int)))=ji4:=(dZ _).trans hji4
   replace H:=zyn H
   obtain ⟨c5b0,c5b1,H⟩:=H
   replace H:=zyn H
   obtain ⟨c6b0,c6b1,H⟩:=H
   obtain rfl:=Option.some.inj H
   go_enter Tryz.func190,Tryz.ntmps190
   go_wp2
   go_ret
   exact ⟨by first|rfl|(simp;done)|(simp only [←hji4]<;>(first|rfl|simp))|(simp [*];done),zq⟩
 · rw [if_neg c3] at H
   have c3b0:decide ((a1.size:Int)≤(a0.size:Int))=false:=decide_eq_false c3
   have c3b1:decide (a1.size≤a0.size)=false:=decide_eq_false (fun h=>c3 (Int.ofNat_le.mpr h))
   clear c3
   obtain rfl:=Option.some.inj H
   go_enter Tryz.func190,Tryz.ntmps190
   go_wp2
   go_ret
   exact ⟨zr,zq⟩
def stringslite_TrimSuffix.f (a0:ByteArray)(a1:ByteArray):Option (ByteArray):=(stringslite_HasSuffix.f a0 a1).bind fun t205=>(if t205=true then (if 0≤(wrap64 ((a0.size:Int)-(a1.size:Int))) then (if (wrap64 ((a0.size:Int)-(a1.size:Int)))≤(a0.size:Int) then (some (a0.extract 0 ((wrap64 ((a0.size:Int)-(a1.size:Int))):Int).toNat)) else (none)) else (none)) else (some a0))
theorem stringslite_TrimSuffix.calls (a0:ByteArray)(a1:ByteArray)(r:ByteArray)(w:World)(h:stringslite_TrimSuffix.f a0 a1=some r):
 Calls Tryz.prog 189 #[.string a0,.string a1] w fun e w'=>e= .returned (.string r)∧dM w w':=by
 have H:=h
 clear h
 unfold stringslite_TrimSuffix.f at H
 replace H:=zo H
 obtain ⟨t205,A3,H⟩:=H
 (try dsimp only at H)
 by_cases c4:t205=true
 · subst c4
   rw [if_pos rfl] at H
   generalize hji5:(wrap64 ((a0.size:Int)-(a1.size:Int)))=ji5 at H
   (try rw [hji5] at A3)
   have hji5w:(IntKind.i64.wrap ((a0.size:Int)-(a1.size:Int)))=ji5:=(dZ _).trans hji5
   replace H:=zyn H
   obtain ⟨c6b0,c6b1,H⟩:=H
   replace H:=zyn H
   obtain ⟨c7b0,c7b1,H⟩:=H
   obtain rfl:=Option.some.inj H
   go_enter Tryz.func189,Tryz.ntmps189
   go_wp2_with (first|(refine zc 7 rfl Tryz.func190 #[.string a0,.string a1] ?_;refine za (stringslite_HasSuffix.calls a0 a1 true _ A3.out) fun nd=> ?_))
   go_ret
   exact ⟨by first|rfl|(simp;done)|(simp only [←hji5]<;>(first|rfl|simp))|(simp [*];done),zq⟩
 · replace c4:=Bool.eq_false_iff.mpr c4
   subst c4
   rw [if_neg nofun] at H
   obtain rfl:=Option.some.inj H
   go_enter Tryz.func189,Tryz.ntmps189
   go_wp2_with (first|(refine zc 7 rfl Tryz.func190 #[.string a0,.string a1] ?_;refine za (stringslite_HasSuffix.calls a0 a1 false _ A3.out) fun nd=> ?_))
   go_ret
   exact ⟨zr,zq⟩
def strings_TrimSuffix.f (a0:ByteArray)(a1:ByteArray):Option (ByteArray):=(stringslite_TrimSuffix.f a0 a1).bind fun t206=>(some t206)
theorem strings_TrimSuffix.calls (a0:ByteArray)(a1:ByteArray)(r:ByteArray)(w:World)(h:strings_TrimSuffix.f a0 a1=some r):
 Calls Tryz.prog 162 #[.string a0,.string a1] w fun e w'=>e= .returned (.string r)∧dM w w':=by
 have H:=h
 clear h
 unfold strings_TrimSuffix.f at H
 replace H:=zo H
 obtain ⟨t206,A3,H⟩:=H
 (try dsimp only at H)
 obtain rfl:=Option.some.inj H
 go_enter Tryz.func162,Tryz.ntmps162
 go_wp2_with (first|(refine zc 7 rfl Tryz.func189 #[.string a0,.string a1] ?_;refine za (stringslite_TrimSuffix.calls a0 a1 t206 _ A3.out) fun nd=> ?_))
 go_ret
 exact ⟨zr,zq⟩
def strings_HasSuffix.f (a0:ByteArray)(a1:ByteArray):Option (Bool):=(stringslite_HasSuffix.f a0 a1).bind fun t207=>(some t207)
theorem strings_HasSuffix.calls (a0:ByteArray)(a1:ByteArray)(r:Bool)(w:World)(h:strings_HasSuffix.f a0 a1=some r):
 Calls Tryz.prog 163 #[.string a0,.string a1] w fun e w'=>e= .returned (.bool r)∧dM w w':=by
 have H:=h
 clear h
 unfold strings_HasSuffix.f at H
 replace H:=zo H
 obtain ⟨t207,A3,H⟩:=H
 (try dsimp only at H)
 obtain rfl:=Option.some.inj H
 go_enter Tryz.func163,Tryz.ntmps163
 go_wp2_with (first|(refine zc 7 rfl Tryz.func190 #[.string a0,.string a1] ?_;refine za (stringslite_HasSuffix.calls a0 a1 t207 _ A3.out) fun nd=> ?_))
 go_ret
 exact ⟨zr,zq⟩
mutual
def bI.j0:Nat→Bool→ByteArray→Int→Value→List ByteArray→Bool→Option (Int × ByteArray × Int × Value × Bool)
 |0,_,_,_,_,_,_=>none
 |k+1,x16,x1000,x1001,x1002,x1003,x1004=>if x16=true then (some (0,x1000,x1001,x1002,x1004)) else ((dQ.f x1000 x1001 x1002 x1003 x1004).bind fun bt213=>(bI.l0 k bt213.1 0 bt213.2.1 bt213.2.2.1 bt213.2.2.2.1 x1003 bt213.2.2.2.2))
def bI.l0:Nat→ByteArray→Int→ByteArray→Int→Value→List ByteArray→Bool→Option (Int × ByteArray × Int × Value × Bool)
 |0,_,_,_,_,_,_,_=>none
 |k+1,x3,x4,x1000,x1001,x1002,x1003,x1004=>if 0≤x4 then (if x4≤(x3.size:Int) then ((strings_IndexByte.f (x3.extract (x4:Int).toNat x3.size) 10).bind fun t218=>(if t218<0 then (some ((x3.size:Int),x1000,x1001,x1002,x1004)) else (if 0≤(wrap64 (x4+t218)) then (if (wrap64 (x4+t218))≤(x3.size:Int) then ((strings_TrimSuffix.f (x3.extract 0 ((wrap64 (x4+t218)):Int).toNat) (⟨#[13]⟩:ByteArray)).bind fun t219=>((strings_HasSuffix.f (x3.extract 0 ((wrap64 (x4+t218)):Int).toNat) (⟨#[92]⟩:ByteArray)).bind fun t220=>(if t220=true then (bI.l0 k x3 (wrap64 ((wrap64 (x4+t218))+1)) x1000 x1001 x1002 x1003 x1004) else ((strings_HasSuffix.f t219 (⟨#[92]⟩:ByteArray)).bind fun t221=>(if t221=true then (bI.l0 k x3 (wrap64 ((wrap64 (x4+t218))+1)) x1000 x1001 x1002 x1003 x1004) else (some ((t219.size:Int),x1000,x1001,x1002,x1004))))))) else (none)) else (none)))) else (none)) else (none)
end
def bI.f (k:Nat)(s0_0:ByteArray)(s0_1:Int)(s0_2:Value)(s0_3:List ByteArray)(s0_4:Bool):Option (Int × ByteArray × Int × Value × Bool):=if s0_4=true then ((ay.f s0_0 s0_1 s0_2 s0_3 s0_4 0).bind fun bt208=>(bI.j0 k (bt208.1 !=35) bt208.2.1 bt208.2.2.1 bt208.2.2.2.1 s0_3 bt208.2.2.2.2)) else (bI.j0 k true s0_0 s0_1 s0_2 s0_3 s0_4)
theorem bI.calls (k:Nat)(g:Nat)(s0_0:ByteArray)(s0_1:Int)(s0_2:Value)(s0_3:List ByteArray)(s0_4:Bool)(r1:Int)(r2:ByteArray)(r3:Int)(r4:Value)(r5:Bool)(w0 w:World)(hI:bK w0 w g s0_0 s0_1 s0_2 s0_3 s0_4)(hB:Below w0.heap.size w0 w)(h:bI.f k s0_0 s0_1 s0_2 s0_3 s0_4=some (r1,r2,r3,r4,r5)):
 Calls Tryz.prog 119 #[.pointer (some ⟨g,0,none⟩)] w fun e w'=>e= .returned (.int .i64 r1)∧bK w0 w' g r2 r3 r4 s0_3 r5∧Below w0.heap.size w0 w'∧aG w w' g none:=by
 have HI0:=z0 hI
 have HK:=z0 (aG.refl w g none)
 have HL:=z0 hB.size
 clear hI
 have HW0:=z0 hB.size
 have HB:=z0 hB
 clear hB
 have H:=h
 clear h
 unfold bI.f at H
 have HC2:=z0 H
 clear H
 go_enter Tryz.func119,Tryz.ntmps119
 go_upto_region 1 with (fail)
 go_cut [16] (fun v16 wc=>∃(kq:Nat) (x16_1:Bool) (x1000_1:ByteArray) (x1001_1:Int) (x1002_1:Value) (x1004_1:Bool),v16= .bool x16_1∧ah (bI.j0 kq x16_1 x1000_1 x1001_1 x1002_1 s0_3 x1004_1=some (r1,r2,r3,r4,r5))∧ah (kq≤k)∧ah (bK w0 wc g x1000_1 x1001_1 x1002_1 s0_3 x1004_1)∧ah (aG w wc g none)∧ah (Below w0.heap.size w0 wc))
 case first=>
  have H:=HC2.out
  clear HC2
  by_cases c3:s0_4=true
  · subst c3
    rw [if_pos rfl] at H
    replace H:=zo H
    obtain ⟨⟨t208,t209,t210,t211,t212⟩,A4,H⟩:=H
    (try dsimp only at H)
    have H':=z0 H
    clear H
    obtain ⟨ASz5_3,cSz5_3,HSz5_3,hcz5_0,hcz5_1,hcz5_2,hcz5_3,hcz5_4,hfz5_0,hfz5_1,hfz5_2,hfz5_4⟩:=zs HI0.out
    go_wp2_with (first|(go_at_call 159;(with_reducible refine (ay.calls g s0_0 s0_1 s0_2 s0_3 true 0 t208 t209 t210 t211 t212 w0 _ ?side1 ?side2 A4.out).mono ?_);(case side1=>exact zi);(case side2=>exact zw);rintro e w6 ⟨rfl,hi,hb,hk⟩;have n0_:=z0 (aG.trans zk hk (.inl rfl));have n1_:=z0 (hb);have n2_:=z0 (hi);revert n0_ n1_ n2_;clear HK HB HI0;intro HK HB HI0;(try clear hb);(try clear hk);(try clear hi)))
    go_meet
    case rel=>exact ⟨_,((t208 !=35)),(t209),(t210),(t211),(t212),zr,H',⟨by first|omega|exact Nat.le_refl _⟩,⟨zi⟩,⟨zk⟩,⟨zw⟩⟩
  · replace c3:=Bool.eq_false_iff.mpr c3
    subst c3
    rw [if_neg nofun] at H
    have H':=z0 H
    clear H
    obtain ⟨ASz7_3,cSz7_3,HSz7_3,hcz7_0,hcz7_1,hcz7_2,hcz7_3,hcz7_4,hfz7_0,hfz7_1,hfz7_2,hfz7_4⟩:=zs HI0.out
    go_wp2
    go_meet
    case rel=>exact ⟨_,(true),(s0_0),(s0_1),(s0_2),(false),zr,H',⟨by first|omega|exact Nat.le_refl _⟩,⟨zi⟩,⟨zk⟩,⟨zw⟩⟩
 case rest=>
  clear HC2
  obtain ⟨kq,x16_1,x1000_1,x1001_1,x1002_1,x1004_1,rfl,HA,HJ1,HI0,HK,HB⟩:=hcut
  cases kq with
  |zero=>exact absurd HA.out (by simp [bI.j0])
  |succ kj1=>
   have H:=HA.out
   clear HA
   simp only [bI.j0] at H
   by_cases c8:x16_1=true
   · subst c8
     rw [if_pos rfl] at H
     simp only [Option.some.injEq,Prod.mk.injEq] at H
     obtain ⟨rfl,rfl,rfl,rfl,rfl⟩:=H
     go_wp2
     go_ret
     exact ⟨zv,zi,zw,zk⟩
   · replace c8:=Bool.eq_false_iff.mpr c8
     subst c8
     rw [if_neg nofun] at H
     replace H:=zo H
     obtain ⟨⟨t213,t214,t215,t216,t217⟩,A9,H⟩:=H
     (try dsimp only at H)
     have H':=z0 H
     clear H
     go_wp2_with (first|(refine zc 18 rfl Tryz.func161 #[.pointer (some ⟨g,0,none⟩)] ?_;refine zj (dQ.calls g x1000_1 x1001_1 x1002_1 s0_3 x1004_1 t213 t214 t215 t216 t217 w0 _ zi zw A9.out) zk ?_;clear HK HB HI0;intro w10 HK HB HI0))
     try go_simp
     go_loopg [4] kj1 (fun kq v4 w'=>∃(x4_2:Int),v4= .int .i64 x4_2∧ah (bI.l0 kq t213 x4_2 t214 t215 t216 s0_3 t217=some (r1,r2,r3,r4,r5))∧ah (kq≤kj1)∧ah (bK w0 w' g t214 t215 t216 s0_3 t217)∧ah (aG w w' g none)∧ah (Below w0.heap.size w0 w'))
     case atStart=>exact ⟨(0),zr,H',⟨Nat.le_refl _⟩,⟨zi⟩,⟨zk⟩,⟨zw⟩⟩
     case round=>
      clear H'
      obtain ⟨x4_2,rfl,HA,HK2,HI0,HK,HB⟩:=hrel
      cases gk with
      |zero=>exact absurd HA.out (by simp [bI.l0])
      |succ k2=>
       have H:=HA.out
       clear HA
       simp only [bI.l0] at H
       replace H:=zyn H
       obtain ⟨c11b0,c11b1,H⟩:=H
       replace H:=zyn H
       obtain ⟨c12b0,c12b1,H⟩:=H
       replace H:=zo H
       obtain ⟨t218,A13,H⟩:=H
       (try dsimp only at H)
       replace H:=zd H
       rcases H with ⟨c14b0,H⟩|⟨c14b0,H⟩
       · simp only [Option.some.injEq,Prod.mk.injEq] at H
         obtain ⟨rfl,rfl,rfl,rfl,rfl⟩:=H
         go_wp2_with (first|(refine zc 22 rfl Tryz.func73 #[.string (t213.extract (x4_2:Int).toNat t213.size),.int .u8 10] ?_;refine za (strings_IndexByte.calls (t213.extract (x4_2:Int).toNat t213.size) 10 t218 _ A13.out) fun nd=> ?_))
         go_ret
         exact ⟨zv,zi,zw,zk⟩
       · generalize hji15:(wrap64 (x4_2+t218))=ji15 at H
         (try rw [hji15] at A13)
         have hji15w:(IntKind.i64.wrap (x4_2+t218))=ji15:=(dZ _).trans hji15
         replace H:=zyn H
         obtain ⟨c16b0,c16b1,H⟩:=H
         replace H:=zyn H
         obtain ⟨c17b0,c17b1,H⟩:=H
         replace H:=zo H
         obtain ⟨t219,A18,H⟩:=H
         (try dsimp only at H)
         have c19b0:=eq_true (of_decide_eq_true (by first|(with_reducible assumption)|assumption):0≤(ji15))
         have c20b0:=eq_true (of_decide_eq_true (by first|(with_reducible assumption)|assumption):(ji15)≤(t213.size:Int))
         replace H:=zo H
         obtain ⟨t220,A21,H⟩:=H
         (try dsimp only at H)
         by_cases c22:t220=true
         · subst c22
           rw [if_pos rfl] at H
           have H':=z0 H
           clear H
           go_wp2_with (first|(refine zc 22 rfl Tryz.func73 #[.string (t213.extract (x4_2:Int).toNat t213.size),.int .u8 10] ?_;refine za (strings_IndexByte.calls (t213.extract (x4_2:Int).toNat t213.size) 10 t218 _ A13.out) fun nd=> ?_)|((with_reducible refine kN (f:=162) rfl ?_);refine qW (some 33) rfl rfl Tryz.func162 zf rfl #[.string (t213.extract 0 ((ji15):Int).toNat),.string (⟨#[13]⟩:ByteArray)] rfl (by (try simp only [List.map_toArray,List.map_cons,List.map_nil]);first|done|(simp only [hji15];rfl)|rfl|(simp only [List.length_drop,List.length_take];rfl)) ?_;refine za (strings_TrimSuffix.calls (t213.extract 0 ((ji15):Int).toNat) (⟨#[13]⟩:ByteArray) t219 _ A18.out) fun nd=> ?_)|((with_reducible refine kN (f:=163) rfl ?_);refine qW (some 37) rfl rfl Tryz.func163 zf rfl #[.string (t213.extract 0 ((ji15):Int).toNat),.string (⟨#[92]⟩:ByteArray)] rfl (by (try simp only [List.map_toArray,List.map_cons,List.map_nil]);first|done|(simp only [hji15];rfl)|rfl|(simp only [List.length_drop,List.length_take];rfl)) ?_;refine za (strings_HasSuffix.calls (t213.extract 0 ((ji15):Int).toNat) (⟨#[92]⟩:ByteArray) true _ A21.out) fun nd=> ?_))
           go_roundg k2
           case measure=>have:=HJ1.out;have:=HK2.out;omega
           case rel=>exact ⟨(wrap64 ((ji15)+1)),(by first|rfl|(simp;done)|(simp only [←hji15]<;>(first|rfl|simp))|(simp [*];done)),H',⟨by have:=HJ1.out;have:=HK2.out;omega⟩,⟨zi⟩,⟨zk⟩,⟨zw⟩⟩
         · replace c22:=Bool.eq_false_iff.mpr c22
           subst c22
           rw [if_neg nofun] at H
           replace H:=zo H
           obtain ⟨t221,A23,H⟩:=H
           (try dsimp only at H)
           by_cases c24:t221=true
           · subst c24
             rw [if_pos rfl] at H
             have H':=z0 H
             clear H
             go_wp2_with (first|(refine zc 22 rfl Tryz.func73 #[.string (t213.extract (x4_2:Int).toNat t213.size),.int .u8 10] ?_;refine za (strings_IndexByte.calls (t213.extract (x4_2:Int).toNat t213.size) 10 t218 _ A13.out) fun nd=> ?_)|((with_reducible refine kN (f:=162) rfl ?_);refine qW (some 33) rfl rfl Tryz.func162 zf rfl #[.string (t213.extract 0 ((ji15):Int).toNat),.string (⟨#[13]⟩:ByteArray)] rfl (by (try simp only [List.map_toArray,List.map_cons,List.map_nil]);first|done|(simp only [hji15];rfl)|rfl|(simp only [List.length_drop,List.length_take];rfl)) ?_;refine za (strings_TrimSuffix.calls (t213.extract 0 ((ji15):Int).toNat) (⟨#[13]⟩:ByteArray) t219 _ A18.out) fun nd=> ?_)|((with_reducible refine kN (f:=163) rfl ?_);refine qW (some 37) rfl rfl Tryz.func163 zf rfl #[.string (t213.extract 0 ((ji15):Int).toNat),.string (⟨#[92]⟩:ByteArray)] rfl (by (try simp only [List.map_toArray,List.map_cons,List.map_nil]);first|done|(simp only [hji15];rfl)|rfl|(simp only [List.length_drop,List.length_take];rfl)) ?_;refine za (strings_HasSuffix.calls (t213.extract 0 ((ji15):Int).toNat) (⟨#[92]⟩:ByteArray) false _ A21.out) fun nd=> ?_)|(go_at_call 163;(with_reducible refine (strings_HasSuffix.calls t219 (⟨#[92]⟩:ByteArray) true _ A23.out).mono ?_);rintro e w' ⟨rfl,⟨nd,rfl⟩⟩))
             go_roundg k2
             case measure=>have:=HJ1.out;have:=HK2.out;omega
             case rel=>exact ⟨(wrap64 ((ji15)+1)),(by first|rfl|(simp;done)|(simp only [←hji15]<;>(first|rfl|simp))|(simp [*];done)),H',⟨by have:=HJ1.out;have:=HK2.out;omega⟩,⟨zi⟩,⟨zk⟩,⟨zw⟩⟩
           · replace c24:=Bool.eq_false_iff.mpr c24
             subst c24
             rw [if_neg nofun] at H
             simp only [Option.some.injEq,Prod.mk.injEq] at H
             obtain ⟨rfl,rfl,rfl,rfl,rfl⟩:=H
             go_wp2_with (first|(refine zc 22 rfl Tryz.func73 #[.string (t213.extract (x4_2:Int).toNat t213.size),.int .u8 10] ?_;refine za (strings_IndexByte.calls (t213.extract (x4_2:Int).toNat t213.size) 10 t218 _ A13.out) fun nd=> ?_)|((with_reducible refine kN (f:=162) rfl ?_);refine qW (some 33) rfl rfl Tryz.func162 zf rfl #[.string (t213.extract 0 ((ji15):Int).toNat),.string (⟨#[13]⟩:ByteArray)] rfl (by (try simp only [List.map_toArray,List.map_cons,List.map_nil]);first|done|(simp only [hji15];rfl)|rfl|(simp only [List.length_drop,List.length_take];rfl)) ?_;refine za (strings_TrimSuffix.calls (t213.extract 0 ((ji15):Int).toNat) (⟨#[13]⟩:ByteArray) t219 _ A18.out) fun nd=> ?_)|((with_reducible refine kN (f:=163) rfl ?_);refine qW (some 37) rfl rfl Tryz.func163 zf rfl #[.string (t213.extract 0 ((ji15):Int).toNat),.string (⟨#[92]⟩:ByteArray)] rfl (by (try simp only [List.map_toArray,List.map_cons,List.map_nil]);first|done|(simp only [hji15];rfl)|rfl|(simp only [List.length_drop,List.length_take];rfl)) ?_;refine za (strings_HasSuffix.calls (t213.extract 0 ((ji15):Int).toNat) (⟨#[92]⟩:ByteArray) false _ A21.out) fun nd=> ?_)|(go_at_call 163;(with_reducible refine (strings_HasSuffix.calls t219 (⟨#[92]⟩:ByteArray) false _ A23.out).mono ?_);rintro e w' ⟨rfl,⟨nd,rfl⟩⟩))
             go_ret
             exact ⟨by first|rfl|(simp [errW_none,errW_some]<;>rfl)|(simp only [←hji15];first|rfl|(simp [errW_none,errW_some]<;>rfl))|(simp [*,errW_none,errW_some]<;>rfl),zi,zw,zk⟩
def dH.l0:Nat→Int→List ByteArray→Int→Int→ByteArray→Int→Value→List ByteArray→Bool→Option (Int × ByteArray × Int × Value × Bool)
 |0,_,_,_,_,_,_,_,_,_=>none
 |k+1,x3,x9,x10,x11,x1000,x1001,x1002,x1003,x1004=>if x11<x10 then (if 0≤x11 then (if x11<(x9.length:Int) then (if ((jv ByteArray.empty x9 x11).size:Int)>x3 then ((dQ.f x1000 x1001 x1002 x1003 x1004).bind fun bt223=>((strings_HasPrefix.f bt223.1 (jv ByteArray.empty x9 x11)).bind fun t228=>(if t228=true then (dH.l0 k ((jv ByteArray.empty x9 x11).size:Int) x9 x10 (wrap64 (x11+1)) bt223.2.1 bt223.2.2.1 bt223.2.2.2.1 x1003 bt223.2.2.2.2) else (dH.l0 k x3 x9 x10 (wrap64 (x11+1)) bt223.2.1 bt223.2.2.1 bt223.2.2.2.1 x1003 bt223.2.2.2.2)))) else (dH.l0 k x3 x9 x10 (wrap64 (x11+1)) x1000 x1001 x1002 x1003 x1004)) else (none)) else (none)) else (some (x3,x1000,x1001,x1002,x1004))
def dH.f (k:Nat)(s0_0:ByteArray)(s0_1:Int)(s0_2:Value)(s0_3:List ByteArray)(s0_4:Bool):Option (Int × ByteArray × Int × Value × Bool):=dH.l0 k 0 s0_3 (s0_3.length:Int) 0 s0_0 s0_1 s0_2 s0_3 s0_4
theorem dH.calls (k:Nat)(g:Nat)(s0_0:ByteArray)(s0_1:Int)(s0_2:Value)(s0_3:List ByteArray)(s0_4:Bool)(r1:Int)(r2:ByteArray)(r3:Int)(r4:Value)(r5:Bool)(w0 w:World)(hI:bK w0 w g s0_0 s0_1 s0_2 s0_3 s0_4)(hB:Below w0.heap.size w0 w)(h:dH.f k s0_0 s0_1 s0_2 s0_3 s0_4=some (r1,r2,r3,r4,r5)):
 Calls Tryz.prog 124 #[.pointer (some ⟨g,0,none⟩)] w fun e w'=>e= .returned (.int .i64 r1)∧bK w0 w' g r2 r3 r4 s0_3 r5∧Below w0.heap.size w0 w'∧aG w w' g none:=by
 have HI0:=z0 hI
 have HK:=z0 (aG.refl w g none)
 have HL:=z0 hB.size
 clear hI
 have HW0:=z0 hB.size
 have HB:=z0 hB
 clear hB
 have H:=h
 clear h
 unfold dH.f at H
 have H':=z0 H
 clear H
 obtain ⟨ASz2_3,cSz2_3,HSz2_3,hcz2_0,hcz2_1,hcz2_2,hcz2_3,hcz2_4,hfz2_0,hfz2_1,hfz2_2,hfz2_4⟩:=zs HI0.out
 go_enter Tryz.func124,Tryz.ntmps124
 go_wp2
 try go_simp
 go_loopg [3,11] k (fun kq v3 v11 w'=>∃(x3_1:Int) (x11_1:Int) (x1000_1:ByteArray) (x1001_1:Int) (x1002_1:Value) (x1004_1:Bool),v3= .int .i64 x3_1∧v11= .int .i64 x11_1∧ah (dH.l0 kq x3_1 s0_3 (s0_3.length:Int) x11_1 x1000_1 x1001_1 x1002_1 s0_3 x1004_1=some (r1,r2,r3,r4,r5))∧ah (kq≤k)∧ah (bK w0 w' g x1000_1 x1001_1 x1002_1 s0_3 x1004_1)∧ah (aG w w' g none)∧ah (Below w0.heap.size w0 w'))
 case atStart=>exact ⟨(0),(0),(s0_0),(s0_1),(s0_2),(s0_4),zr,zr,H',⟨Nat.le_refl _⟩,⟨zi⟩,⟨zk⟩,⟨zw⟩⟩
 case round=>
  clear H'
  obtain ⟨x3_1,x11_1,x1000_1,x1001_1,x1002_1,x1004_1,rfl,rfl,HA,HK1,HI0,HK,HB⟩:=hrel
  cases gk with
  |zero=>exact absurd HA.out (by simp [dH.l0])
  |succ k1=>
   have H:=HA.out
   clear HA
   simp only [dH.l0] at H
   replace H:=zd H
   rcases H with ⟨c3b0,H⟩|⟨c3b0,H⟩
   · replace H:=zdn H
     obtain ⟨c4b0,H⟩:=H
     replace H:=zdn H
     obtain ⟨c5b0,H⟩:=H
     replace H:=zt H
     rcases H with ⟨c6b0,H⟩|⟨c6b0,H⟩
     · replace H:=zo H
       obtain ⟨⟨t223,t224,t225,t226,t227⟩,A7,H⟩:=H
       (try dsimp only at H)
       replace H:=zo H
       obtain ⟨t228,A8,H⟩:=H
       (try dsimp only at H)
       by_cases c9:t228=true
       · subst c9
         rw [if_pos rfl] at H
         have H':=z0 H
         clear H
         obtain ⟨ASz10_3,cSz10_3,HSz10_3,hcz10_0,hcz10_1,hcz10_2,hcz10_3,hcz10_4,hfz10_0,hfz10_1,hfz10_2,hfz10_4⟩:=zs HI0.out
         have p222:0≤(x11_1:Int):=of_decide_eq_true (by first|(with_reducible assumption)|assumption)
         have q222:x11_1<(s0_3.length:Int):=of_decide_eq_true (by first|(with_reducible assumption)|assumption)
         obtain ⟨ad222,e222,hx222_0⟩:=Kd.fF HSz2_3 x11_1 p222 q222
         cases e222
         replace hx222_0:=jw HB.out hx222_0
         replace p222:=eq_true p222
         replace q222:=eq_true q222
         go_wp2_with (first|(go_at_call 161;(with_reducible refine (dQ.calls g x1000_1 x1001_1 x1002_1 s0_3 x1004_1 t223 t224 t225 t226 t227 w0 _ ?side1 ?side2 A7.out).mono ?_);(case side1=>exact zi);(case side2=>exact zw);rintro e w11 ⟨rfl,hi,hb,hk⟩;have n0_:=z0 (aG.trans zk hk (.inl rfl));have n1_:=z0 (hb);have n2_:=z0 (hi);revert n0_ n1_ n2_;clear HK HB HI0;intro HK HB HI0;(try clear hb);(try clear hk);(try clear hi))|(go_at_call 72;(with_reducible refine (strings_HasPrefix.calls t223 (jv ByteArray.empty s0_3 x11_1) true _ A8.out).mono ?_);rintro e w' ⟨rfl,⟨nd,rfl⟩⟩))
         go_roundg k1
         case measure=>have:=HK1.out;omega
         case rel=>exact ⟨(((jv ByteArray.empty s0_3 x11_1).size:Int)),(wrap64 (x11_1+1)),(t224),(t225),(t226),(t227),zr,zr,H',⟨by have:=HK1.out;omega⟩,⟨zi⟩,⟨zk⟩,⟨zw⟩⟩
       · replace c9:=Bool.eq_false_iff.mpr c9
         subst c9
         rw [if_neg nofun] at H
         have H':=z0 H
         clear H
         obtain ⟨ASz12_3,cSz12_3,HSz12_3,hcz12_0,hcz12_1,hcz12_2,hcz12_3,hcz12_4,hfz12_0,hfz12_1,hfz12_2,hfz12_4⟩:=zs HI0.out
         have p222:0≤(x11_1:Int):=of_decide_eq_true (by first|(with_reducible assumption)|assumption)
         have q222:x11_1<(s0_3.length:Int):=of_decide_eq_true (by first|(with_reducible assumption)|assumption)
         obtain ⟨ad222,e222,hx222_0⟩:=Kd.fF HSz2_3 x11_1 p222 q222
         cases e222
         replace hx222_0:=jw HB.out hx222_0
         replace p222:=eq_true p222
         replace q222:=eq_true q222
         go_wp2_with (first|(go_at_call 161;(with_reducible refine (dQ.calls g x1000_1 x1001_1 x1002_1 s0_3 x1004_1 t223 t224 t225 t226 t227 w0 _ ?side1 ?side2 A7.out).mono ?_);(case side1=>exact zi);(case side2=>exact zw);rintro e w13 ⟨rfl,hi,hb,hk⟩;have n0_:=z0 (aG.trans zk hk (.inl rfl));have n1_:=z0 (hb);have n2_:=z0 (hi);revert n0_ n1_ n2_;clear HK HB HI0;intro HK HB HI0;(try clear hb);(try clear hk);(try clear hi))|(go_at_call 72;(with_reducible refine (strings_HasPrefix.calls t223 (jv ByteArray.empty s0_3 x11_1) false _ A8.out).mono ?_);rintro e w' ⟨rfl,⟨nd,rfl⟩⟩))
         go_roundg k1
         case measure=>have:=HK1.out;omega
         case rel=>exact ⟨(x3_1),(wrap64 (x11_1+1)),(t224),(t225),(t226),(t227),zr,zr,H',⟨by have:=HK1.out;omega⟩,⟨zi⟩,⟨zk⟩,⟨zw⟩⟩
     · have H':=z0 H
       clear H
       obtain ⟨ASz14_3,cSz14_3,HSz14_3,hcz14_0,hcz14_1,hcz14_2,hcz14_3,hcz14_4,hfz14_0,hfz14_1,hfz14_2,hfz14_4⟩:=zs HI0.out
       have p222:0≤(x11_1:Int):=of_decide_eq_true (by first|(with_reducible assumption)|assumption)
       have q222:x11_1<(s0_3.length:Int):=of_decide_eq_true (by first|(with_reducible assumption)|assumption)
       obtain ⟨ad222,e222,hx222_0⟩:=Kd.fF HSz2_3 x11_1 p222 q222
       cases e222
       replace hx222_0:=jw HB.out hx222_0
       replace p222:=eq_true p222
       replace q222:=eq_true q222
       go_wp2
       go_roundg k1
       case measure=>have:=HK1.out;omega
       case rel=>exact ⟨(x3_1),(wrap64 (x11_1+1)),(x1000_1),(x1001_1),(x1002_1),(x1004_1),zr,zr,H',⟨by have:=HK1.out;omega⟩,⟨zi⟩,⟨zk⟩,⟨zw⟩⟩
   · simp only [Option.some.injEq,Prod.mk.injEq] at H
     obtain ⟨rfl,rfl,rfl,rfl,rfl⟩:=H
     go_wp2
     go_ret
     exact ⟨zv,zi,zw,zk⟩
end Go.Proofs.YtolaiebjmhieiaaGreatDoor.OScan
end
section
namespace Go.Proofs.YtolaiebjmhieiaaGreatDoor.OScan
open Go.RowKit YtolaiebjmhieiaaGreatDoorW.PrintWords YtolaiebjmhieiaaGreatDoorW.PrintLast YtolaiebjmhieiaaGreatDoorW.PrintMore
theorem kD {W:World}{i:Nat}{o:Obj}(h:W.heap[i]? =some o):i<W.heap.size:=by
 by_cases hx:i<W.heap.size
 · exact hx
 · rw [Array.getElem?_eq_none (by omega)] at h;simp at h
def ny (W:World)(v:Value)(kw:List ByteArray):Prop:=∃b es clock,v= .map (some b)∧W.heap[b]? =some (.map es clock)∧es.toList.map (fun e=>(e.key,e.val))=kw.map (fun t=>(Value.string t,Value.bool true))
theorem J7 (t:ByteArray):∀(l:List MapEntry) (kw:List ByteArray) (i:Nat),l.map (fun e=>(e.key,e.val))=kw.map (fun t=>(Value.string t,Value.bool true))→
 ∃r,Instr.findNow .string (.string t) l i=some r∧((kw.contains t=true∧∃j,r=some (j,.bool true))∨(kw.contains t=false∧r=none)):=by
 intro l
 induction l with
 |nil=>intro kw i h;cases kw with
  |nil=>exact ⟨none,rfl,.inr ⟨rfl,rfl⟩⟩
  |cons=>simp at h
 |cons e l ih=>
  intro kw i h
  cases kw with
  |nil=>simp at h
  |cons a kw=>
   simp only [List.map_cons,List.cons.injEq,Prod.mk.injEq] at h
   obtain ⟨⟨h1,h2⟩,h3⟩:=h
   simp only [Instr.findNow,h1,Instr.sameNow]
   have hcc:(a::kw).contains t=(t==a||kw.contains t):=by simp only [List.contains_cons]
   cases hta:(t==a)
   · obtain ⟨r,hr,hq⟩:=ih kw (i+1) h3
     refine ⟨r,hr,?_⟩
     rw [hcc,hta,Bool.false_or];exact hq
   · exact ⟨some (i,e.val),rfl,.inl ⟨by rw [hcc,hta,Bool.true_or],i,by rw [h2]⟩⟩
theorem Dt (W:World)(e:Bool)(n:Nat)(t:ByteArray):(Instr.checkKey e (n+1) 9 (.string t)).run Tryz.prog W= .ok () W:=by
 rw [Instr.checkKey.eq_def];simp [run_underlying Tryz.underlying9]
theorem ny.keep {w w':World}{v:Value}{kw:List ByteArray}{g:Nat}{cs:Array Value}{ty:TypeId}{fr:Nat × Nat}(h:ny w v kw)(hk:aG w w' g none)(hg:w.heap[g]? =some (.cells cs ty fr)):ny w' v kw:=by
 obtain ⟨b,es,clock,rfl,hb,he⟩:=h
 have hl:=kD hb
 refine ⟨b,es,clock,rfl,?_,he⟩
 rw [hk.2 b hl (fun hx=>by subst hx;rw [hb] at hg;cases hg) (by simp),hb]
theorem ny.run {W:World}{v:Value}{kw:List ByteArray}(h:ny W v kw)(t:ByteArray):(Instr.lookup 112 v (.string t) false).run Tryz.prog W= .ok (.bool (kw.contains t)) W:=by
 obtain ⟨b,es,clock,rfl,hb,he⟩:=h
 obtain ⟨r,hr,hq⟩:=J7 t es.toList kw 0 he
 have hck:=Dt W es.isEmpty 9999 t
 rcases hq with ⟨hc,j,rfl⟩|⟨hc,rfl⟩<;>
  simp [Instr.lookup,run_underlying Tryz.underlying112,MapKept.run_getObj_map hb,hck,Instr.findKey,run_underlying Tryz.underlying9,hr,hc,Result.andThen,Tryz.zeroValue4]
end Go.Proofs.YtolaiebjmhieiaaGreatDoor.OScan
end
section
namespace Go.Proofs.YtolaiebjmhieiaaGreatDoor.OScan
open Go.RowKit YtolaiebjmhieiaaGreatDoorW.PrintWords YtolaiebjmhieiaaGreatDoorW.PrintLast YtolaiebjmhieiaaGreatDoorW.PrintMore
attribute [local go_sem] jF jD ku jZ jc iZ jE jC
abbrev St:=ByteArray × Int × Value × Bool
def qy (k:Nat)(sg:List ByteArray)(j:Nat)(x:St):Option (Int × St):=
 match j with
 |0=>bI.f k x.1 x.2.1 x.2.2.1 sg x.2.2.2
 |1=>dD.f k x.1 x.2.1 x.2.2.1 sg x.2.2.2
 |2=>aN.f k x.1 x.2.1 x.2.2.1 sg x.2.2.2
 |3=>gy.f k x.1 x.2.1 x.2.2.1 sg x.2.2.2
 |4=>gu.f k x.1 x.2.1 x.2.2.1 sg x.2.2.2
 |_=>dH.f k x.1 x.2.1 x.2.2.1 sg x.2.2.2
def jR (j:Nat):Int:=match j with|0=>7|1=>1|2=>3|3=>4|4=>5|_=>6
def tries (k:Nat)(sg:List ByteArray):Nat→Nat→St→Option (Int × Int × St)
 |0,_,x=>some (1,8,x)
 |f+1,j,x=>(qy k sg j x).bind fun r=>if 0<r.1 then some (r.1,jR j,r.2) else tries k sg f (j+1) r.2
theorem jo (k:Nat)(sg:List ByteArray)(f j:Nat)(x:St):tries k sg (f+1) j x=(qy k sg j x).bind fun r=>if 0<r.1 then some (r.1,jR j,r.2) else tries k sg f (j+1) r.2:=rfl
def vT (g:Nat):Array Value:= #[Value.int IntKind.i64 7,Value.func (Fn.func 119) #[Value.pointer (some {block:=g,off:=0})] #[],
 Value.int IntKind.i64 1,Value.func (Fn.func 120) #[Value.pointer (some {block:=g,off:=0})] #[],
 Value.int IntKind.i64 3,Value.func (Fn.func 121) #[Value.pointer (some {block:=g,off:=0})] #[],
 Value.int IntKind.i64 4,Value.func (Fn.func 122) #[Value.pointer (some {block:=g,off:=0})] #[],
 Value.int IntKind.i64 5,Value.func (Fn.func 123) #[Value.pointer (some {block:=g,off:=0})] #[],
 Value.int IntKind.i64 6,Value.func (Fn.func 124) #[Value.pointer (some {block:=g,off:=0})] #[]]
def eU (kw:List ByteArray)(kd:Int)(t:ByteArray):Int:=if kd=1∧kw.contains t=true then 2 else kd
def KL (w:World)(n:Nat):Prop:=w.heap.size≤n
structure yj (w0 w W:World)(g T R B:Nat)(b:ByteArray)(at0:Int)(sg:List ByteArray)(kk:Int)(y:St):Prop where
 st:bK w0 W g y.1 y.2.1 y.2.2.1 sg y.2.2.2
 below:Below w0.heap.size w0 W
 keep:aG w W g none
 res:W.heap[R]? =some (Obj.cells #[.int .i64 0,.string ⟨#[]⟩,.string ⟨#[]⟩,.int .i64 0] 95)
 tok:W.heap[T]? =some (Obj.cells #[.int .i64 kk,.string b,.string ⟨#[]⟩,.int .i64 at0] 95)
 tab:W.heap[B]? =some (Obj.cells (vT g) 178)
 hT:w.heap.size≤T
 hT0:w0.heap.size≤T
theorem yj.step {w0 w W W8:World}{g T R B:Nat}{b:ByteArray}{at0 kk:Int}{sg:List ByteArray}{y y':St}{o:Obj}(h:yj w0 w W g T R B b at0 sg kk y)
 (hi:bK w0 W8 g y'.1 y'.2.1 y'.2.2.1 sg y'.2.2.2) (hb:Below w0.heap.size w0 W8) (hk:aG (W.alloc o) W8 g none) (hT:g≠T) (hR:g≠R) (hB:g≠B):
 yj w0 w W8 g T R B b at0 sg kk y':=by
 have key:∀{i:Nat} {x:Obj},W.heap[i]? =some x→g≠i→W8.heap[i]? =some x:=fun {i x} hx hn=>by
  have hl:=kD hx
  rw [hk.2 i (by simp;omega) (Ne.symm hn) (by simp),Below.heap_alloc _ _ _ hl,hx]
 refine ⟨hi,hb,aG.trans h.keep (aG.trans (aG.of_below (aA (Below.refl _ _) o) g none) hk (.inl rfl)) (.inl rfl),key h.res hR,key h.tok hT,key h.tab hB,h.hT,h.hT0⟩
theorem yj.kind {w0 w W:World}{g T R B:Nat}{b:ByteArray}{at0 kk:Int}{sg:List ByteArray}{y:St}(h:yj w0 w W g T R B b at0 sg kk y)(kd:Int)(hT:g≠T)(hTR:T≠R)(hTB:T≠B):
 yj w0 w (W.setCell ⟨T,0,none⟩ (.int .i64 kd)).drew g T R B b at0 sg kd y:=by
 refine ⟨(h.st.far hT _).drew,fE (bC h.below h.hT0),nU (fO h.keep h.hT _),?_,?_,?_,h.hT,h.hT0⟩
 · exact dX (p:=⟨T,0,none⟩) h.res (Ne.symm hTR) _
 · show (W.setCell ⟨T,0,none⟩ (.int .i64 kd)).heap[T]? =_
   have:=fJ h.tok 0 (.int .i64 kd)
   simpa using this
 · exact dX (p:=⟨T,0,none⟩) h.tab (Ne.symm hTB) _
theorem Jq (k:Nat)(g:Nat)(s0_0:ByteArray)(s0_1:Int)(s0_2:Value)(s0_3:List ByteArray)(s0_4:Bool)(b r2:ByteArray)(r3:Int)(r4:Value)(r5:Bool)(w0 w:World)(hI:bK w0 w g s0_0 s0_1 s0_2 s0_3 s0_4)(hB:Below w0.heap.size w0 w)(h:au.f k s0_0 s0_1 s0_2 s0_3 s0_4=some (b,r2,r3,r4,r5))(hG_:Glob w0)(he:r3≠(r2.size:Int))(n kd:Int)(x:St)(ht:tries k s0_3 6 0 (r2,r3,r4,r5)=some (n,kd,x))(hx0:0≤x.2.1)(hx1:x.2.1+n≤(x.1.size:Int))(hx2:0≤n)(hx3:(x.1.size:Int)≤140737488355328)(kw:List ByteArray)(hx4:x.2.2.1=s0_2)(hM:ny w s0_2 kw):
 Calls Tryz.prog 66 #[.pointer (some ⟨g,0,none⟩)] w fun e w'=>e= .returned (.agg #[.int .i64 (eU kw kd (x.1.extract x.2.1.toNat (x.2.1+n).toNat)),.string b,.string (x.1.extract x.2.1.toNat (x.2.1+n).toNat),.int .i64 r3])∧bK w0 w' g x.1 (x.2.1+n) x.2.2.1 s0_3 false∧Below w0.heap.size w0 w'∧aG w w' g none:=by
 have HI0:=z0 hI
 have HK:=z0 (aG.refl w g none)
 have HB:=z0 hB
 go_enter Tryz.func66,Tryz.ntmps66
 have hnel:g≠w.heap.size:=by obtain ⟨A3,c3,hb,_⟩:=hI;intro hx;subst hx;simp at hb
 go_wp2_with (go_at_call 118;go_loud (refine (au.calls k g s0_0 s0_1 s0_2 s0_3 s0_4 b r2 r3 r4 r5 w0 _ (HI0.out.alloc _) (aA HB.out _) h hG_).mono ?_;rintro e w5 ⟨rfl,hi,hb,hk⟩;have hi':=z0 hi;obtain ⟨AS,cS,HG,hg,HS⟩:=hi;have hc1:=dW HG))
 obtain ⟨w6,hw6⟩:∃w6,w5.alloc (Obj.cells #[.int .i64 0,.string b,.string ⟨#[]⟩,.int .i64 r3] 95)=w6:=⟨_,rfl⟩
 rw [hw6]
 have hI6:bK w0 w6 g r2 r3 r4 s0_3 r5:=hw6▸hi'.out.alloc _
 have hR5:=(hk.2 w.heap.size (by simp) (Ne.symm hnel) (by simp)).trans (dh w _)
 have hlt:w.heap.size<w5.heap.size:=by have h1:=hk.1;simp at h1;omega
 have hR6:w6.heap[w.heap.size]? =some (Obj.cells #[.int .i64 0,.string ⟨#[]⟩,.string ⟨#[]⟩,.int .i64 0] 95):=by rw [←hw6];exact (Below.heap_alloc w5 _ _ hlt).trans hR5
 have hT6:w6.heap[w5.heap.size]? =some (Obj.cells #[.int .i64 0,.string b,.string ⟨#[]⟩,.int .i64 r3] 95):=by rw [←hw6];exact dh w5 _
 have hB6:Below w0.heap.size w0 w6:=hw6▸aA hb _
 have hne1:g≠w5.heap.size:=by intro hx;subst hx;simp at HG
 have hTR:w5.heap.size≠w.heap.size:=by omega
 have hLR:KL w0 w.heap.size:=HB.out.size
 have hLR':KL w w.heap.size:=Nat.le_refl _
 have hLT:KL w w5.heap.size:=Nat.le_of_lt hlt
 have hLT0:KL w0 w5.heap.size:=hb.size
 have hI6':=z0 hI6
 have hK6:ah (aG w w6 g none):=⟨hw6▸lH (aG.trans (lH (aG.refl w g none) _) hk (.inl rfl)) _⟩
 clear HG hc1
 obtain ⟨AS6,cS6,HG,hg6,HS6⟩:=hI6
 have hc0:=eX HG
 have hc1:=dW HG
 have hc4:=eH HG
 have hf0:=aj HG 0
 have hf1:=aj HG 1
 have hdec:(r3==(r2.size:Int))=false:=(by simpa using he)
 have hdec2:decide (r3=(r2.size:Int))=false:=(by simpa using he)
 have ht0:w6.cell? ⟨w5.heap.size,0,none⟩=some (.int .i64 0):=(aC hT6 0).trans rfl
 have hft0:=aj hT6 0
 generalize w5.heap.size=T at *
 generalize w.heap.size=R at *
 repeat (go_quiet (fail);try go_wp2)
 have hTB:T<w6.heap.size:=by
  by_cases hx:T<w6.heap.size
  · exact hx
  · rw [Array.getElem?_eq_none (by omega)] at hT6;simp at hT6
 have hRB:R<w6.heap.size:=by omega
 have hgB:g<w6.heap.size:=by
  by_cases hx:g<w6.heap.size
  · exact hx
  · rw [Array.getElem?_eq_none (by omega)] at HG;simp at HG
 obtain ⟨w7,hw7⟩:∃w7,((w6.drewN nq).setCell {block:=T,off:=0} (Value.int IntKind.i64 8)).alloc (Obj.cells (vT g) 178)=w7:=⟨_,rfl⟩
 have hB7:w7.heap[w6.heap.size]? =some (Obj.cells (vT g) 178):=by
  rw [←hw7]
  have:=dh ((w6.drewN nq).setCell {block:=T,off:=0} (Value.int IntKind.i64 8)) (Obj.cells (vT g) 178)
  simpa [World.setCell] using this
 have hW7:yj w0 w w7 g T R w6.heap.size b r3 s0_3 8 (r2,r3,r4,r5):=by
  refine ⟨?_,?_,?_,?_,?_,hB7,hLT,hLT0⟩
  · rw [←hw7];exact ((hI6'.out.drewN nq).far (p:=⟨T,0,none⟩) hne1 _).alloc _
  · rw [←hw7];exact aA (bC (aY hB6 nq) hLT0) _
  · rw [←hw7];exact lH (fO (p:=⟨T,0,none⟩) (kJ hK6.out nq) hLT _) _
  · rw [←hw7];exact (Below.heap_alloc _ _ _ (by simpa [World.setCell] using hRB)).trans (dX (p:=⟨T,0,none⟩) (show (w6.drewN nq).heap[R]? =_ from hR6) (Ne.symm hTR) _)
  · rw [←hw7]
    refine (Below.heap_alloc _ _ _ (by simpa [World.setCell] using hTB)).trans ?_
    have:=fJ (show (w6.drewN nq).heap[T]? =_ from hT6) 0 (.int .i64 8)
    simpa using this
 simp only [vT] at hw7
 rw [hw7]
 have hBg:g≠w6.heap.size:=by omega
 have hTB':T≠w6.heap.size:=by omega
 generalize w6.heap.size=B at *
 go_loopg [5,49] 6 (fun kq v5 v49 w'=>∃(y:St),v5= .int .i64 1∧v49= .int .i64 ((6-kq:Nat):Int)∧ah (kq≤6)∧ah (tries k s0_3 kq (6-kq) y=some (n,kd,x))∧ah (yj w0 w w' g T R B b r3 s0_3 8 y))
 case atStart=>exact ⟨(r2,r3,r4,r5),rfl,rfl,⟨by omega⟩,⟨ht⟩,⟨hW7⟩⟩
 case round=>
  clear hc0 hc1 hc4 hf0 hf1 ht0 hft0 hR6 hT6 hB7 hW7 ht HG HS6 hw7
  obtain ⟨y,rfl,rfl,hk6,HT,HW⟩:=hrel
  cases gk with
  |zero=>
   have H:=HT.out
   obtain ⟨rfl,rfl,rfl⟩:(1:Int)=n∧(8:Int)=kd∧y=x:=by simpa [tries] using H
   have hb0:decide ((6:Int)<6)=false:=by decide
   have HW9:=HW.out
   obtain ⟨AS9,cS9,HG9,hg9,HS9⟩:=HW9.st
   have hc0:=eX HG9
   have hc1:=dW HG9
   have hc4:=eH HG9
   have hf1:=aj HG9 1
   have hf4:=aj HG9 4
   have ht0:wr.cell? ⟨T,0,none⟩=some (.int .i64 8):=(aC HW9.tok 0).trans rfl
   have ht2:wr.cell? ⟨T,2,none⟩=some (.string ⟨#[]⟩):=(aC HW9.tok 2).trans rfl
   have htf2:=aj HW9.tok 2
   have hwr:IntKind.i64.wrap (y.2.1+1)=y.2.1+1:=IntWalk.i64_in _ (by omega)
   have hwr2:wrap64 (y.2.1+1)=y.2.1+1:=(dZ _).symm.trans hwr
   have p1:(0≤y.2.1)=True:=eq_true hx0
   have p2:(y.2.1≤y.2.1+1)=True:=eq_true (by omega)
   have p3:(y.2.1+1≤(y.1.size:Int))=True:=eq_true hx1
   have q1:decide (0≤y.2.1)=true:=decide_eq_true hx0
   have q2:decide (y.2.1≤y.2.1+1)=true:=decide_eq_true (by omega)
   have q3:decide (y.2.1+1≤(y.1.size:Int))=true:=decide_eq_true hx1
   go_wp2
   go_region
   obtain ⟨w10,hw10⟩:∃w10,(wr.setCell ⟨T,2,none⟩ (.string (y.1.extract y.2.1.toNat (y.2.1+1).toNat))).drew=w10:=⟨_,rfl⟩
   rw [hw10]
   have hI10:bK w0 w10 g y.1 y.2.1 y.2.2.1 s0_3 y.2.2.2:=hw10▸(HW9.st.far hne1 _).drew
   have hB10:Below w0.heap.size w0 w10:=hw10▸fE (bC HW9.below HW9.hT0)
   have hK10:aG w w10 g none:=hw10▸nU (fO HW9.keep HW9.hT _)
   have hR10:w10.heap[R]? =some (Obj.cells #[.int .i64 0,.string ⟨#[]⟩,.string ⟨#[]⟩,.int .i64 0] 95):=hw10▸(dX (p:=⟨T,2,none⟩) HW9.res (Ne.symm hTR) _)
   have hT10:w10.heap[T]? =some (Obj.cells #[.int .i64 8,.string b,.string (y.1.extract y.2.1.toNat (y.2.1+1).toNat),.int .i64 r3] 95):=by
    have:=fJ HW9.tok 2 (.string (y.1.extract y.2.1.toNat (y.2.1+1).toNat))
    rw [←hw10];show (wr.setCell ⟨T,2,none⟩ _).heap[T]? =_;simpa using this
   have hTa:=HW9.hT
   have hTb:=HW9.hT0
   clear hc0 hc1 hc4 hf1 hf4 ht0 ht2 htf2 HG9 HW9 hw10
   have hI10':=z0 hI10
   obtain ⟨AS10,cS10,HG10,hg10,HS10⟩:=hI10
   have hc1:=dW HG10
   have hc4:=eH HG10
   have hf1:=aj HG10 1
   have hf4:=aj HG10 4
   have ht0:w10.cell? ⟨T,0,none⟩=some (.int .i64 8):=(aC hT10 0).trans rfl
   have ht1:w10.cell? ⟨T,1,none⟩=some (.string b):=(aC hT10 1).trans rfl
   have ht2:w10.cell? ⟨T,2,none⟩=some (.string (y.1.extract y.2.1.toNat (y.2.1+1).toNat)):=(aC hT10 2).trans rfl
   have ht3:w10.cell? ⟨T,3,none⟩=some (.int .i64 r3):=(aC hT10 3).trans rfl
   have hr0:w10.cell? ⟨R,0,none⟩=some (.int .i64 0):=(aC hR10 0).trans rfl
   have hr1:w10.cell? ⟨R,1,none⟩=some (.string ⟨#[]⟩):=(aC hR10 1).trans rfl
   have hr2:w10.cell? ⟨R,2,none⟩=some (.string ⟨#[]⟩):=(aC hR10 2).trans rfl
   have hr3:w10.cell? ⟨R,3,none⟩=some (.int .i64 0):=(aC hR10 3).trans rfl
   have hrf0:=aj hR10 0
   have hrf1:=aj hR10 1
   have hrf2:=aj hR10 2
   have hrf3:=aj hR10 3
   go_wp2
   repeat (go_quiet (fail);try go_wp2)
   have hR11:=fJ (fJ (fJ (fJ (dX (p:=⟨g,4,none⟩) (dX (p:=⟨g,1,none⟩) (show (w10.drewN nq).heap[R]? =_ from hR10) (Ne.symm hnel) (.int .i64 (y.2.1+1))) (Ne.symm hnel) (.bool false)) 0 (.int .i64 8)) 1 (.string b)) 2 (.string (y.1.extract y.2.1.toNat (y.2.1+1).toNat))) 3 (.int .i64 r3)
   have hv0:=aC hR11 0
   have hv1:=aC hR11 1
   have hv2:=aC hR11 2
   have hv3:=aC hR11 3
   simp at hv0 hv1 hv2 hv3
   (try simp only [Exit.inBlock,Exit.then])
   have hfk:eU kw 8 (y.1.extract y.2.1.toNat (y.2.1+1).toNat)=8:=by simp [eU,jR]
   rw [hfk]
   refine bodyPost_ret (v:= .agg #[.int .i64 8,.string b,.string (y.1.extract y.2.1.toNat (y.2.1+1).toNat),.int .i64 r3]) ?res rfl ⟨rfl,?i1,?i2,?i3⟩
   case res=>
    clear hR11
    unfold results
    rw [show Tryz.f66.results= #[.cell 2 95] from rfl]
    go_simp
   case i1=>exact (((((((hI10'.out.drewN nq).BM _).BL _).far (p:=⟨R,0,none⟩) hnel _).far (p:=⟨R,1,none⟩) hnel _).far (p:=⟨R,2,none⟩) hnel _).far (p:=⟨R,3,none⟩) hnel _)
   case i2=>exact bC (bC (bC (bC (bC (bC (aY hB10 nq) hg10) hg10) hLR) hLR) hLR) hLR
   case i3=>exact fO (p:=⟨R,3,none⟩) (fO (p:=⟨R,2,none⟩) (fO (p:=⟨R,1,none⟩) (fO (p:=⟨R,0,none⟩) (aG.Aa (aG.Aa (kJ hK10 nq) 1 _) 4 _) hLR' _) hLR' _) hLR' _) hLR' _
  |succ k1=>
   have h6:=hk6.out
   have hcase:k1=4∨k1=5∨k1=3∨k1=2∨k1=1∨k1=0:=by omega
   rcases hcase with rfl|rfl|rfl|rfl|rfl|rfl
   · have H:=HT.out
     rw [jo] at H
     obtain ⟨⟨m,y'⟩,hm,H⟩:=Option.bind_eq_some_iff.mp H
     have hgN:g≠wr.heap.size:=by obtain ⟨_,_,hx,_⟩:=HW.out.st;have:=kD hx;omega
     have hcb0:wr.cell? ⟨B,2,none⟩=some (.int .i64 1):=(aC HW.out.tab 2).trans rfl
     have hcb1:wr.cell? ⟨B,3,none⟩=some (.func (Fn.func 120) #[.pointer (some ⟨g,0,none⟩)] #[]):=(aC HW.out.tab 3).trans rfl
     have hm':dD.f k y.1 y.2.1 y.2.2.1 s0_3 y.2.2.2=some (m,y'.1,y'.2.1,y'.2.2.1,y'.2.2.2):=hm
     have hb0:decide ((1:Int)<6)=true:=by decide
     by_cases hm0:0<m
     · have hd0:decide (0<m)=true:=decide_eq_true hm0
       rw [if_pos hm0] at H
       obtain ⟨rfl,rfl,rfl⟩:m=n∧jR 1=kd∧y'=x:=by simpa using H
       go_wp2_with (go_at_call 120;go_loud (refine (dD.calls k g y.1 y.2.1 y.2.2.1 s0_3 y.2.2.2 m y'.1 y'.2.1 y'.2.2.1 y'.2.2.2 w0 _ (HW.out.st.alloc _) (aA HW.out.below _) hm').mono ?_;rintro e w8 ⟨rfl,hi8,hb8,hk8⟩;have HW8:=z0 (HW.out.step hi8 hb8 hk8 hne1 hnel hBg);have hN:=(hk8.2 wr.heap.size (by simp) (Ne.symm hgN) (by simp)).trans (dh wr _);have hnc:w8.cell? ⟨wr.heap.size,0,none⟩=some (.int .i64 1):=(aC hN 0).trans rfl;have htc:w8.cell? ⟨T,0,none⟩=some (.int .i64 8):=(aC HW8.out.tok 0).trans rfl;have htf:=aj HW8.out.tok 0))
       go_region
       obtain ⟨w9,hw9⟩:∃w9,(w8.setCell ⟨T,0,none⟩ (.int .i64 1)).drew=w9:=⟨_,rfl⟩
       rw [hw9]
       have HW9:yj w0 w w9 g T R B b r3 s0_3 1 y':=hw9▸HW8.out.kind 1 hne1 hTR hTB'
       clear hnc htc htf hN hcb0 hcb1 hi8 hb8 hk8 hw9 HW8
       obtain ⟨AS9,cS9,HG9,hg9,HS9⟩:=HW9.st
       have hc0:=eX HG9
       have hc1:=dW HG9
       have hc4:=eH HG9
       have hf1:=aj HG9 1
       have hf4:=aj HG9 4
       have ht0:w9.cell? ⟨T,0,none⟩=some (.int .i64 1):=(aC HW9.tok 0).trans rfl
       have ht2:w9.cell? ⟨T,2,none⟩=some (.string ⟨#[]⟩):=(aC HW9.tok 2).trans rfl
       have htf2:=aj HW9.tok 2
       have hwr:IntKind.i64.wrap (y'.2.1+m)=y'.2.1+m:=IntWalk.i64_in _ (by omega)
       have hwr2:wrap64 (y'.2.1+m)=y'.2.1+m:=(dZ _).symm.trans hwr
       have p1:(0≤y'.2.1)=True:=eq_true hx0
       have p2:(y'.2.1≤y'.2.1+m)=True:=eq_true (by omega)
       have p3:(y'.2.1+m≤(y'.1.size:Int))=True:=eq_true hx1
       have q1:decide (0≤y'.2.1)=true:=decide_eq_true hx0
       have q2:decide (y'.2.1≤y'.2.1+m)=true:=decide_eq_true (by omega)
       have q3:decide (y'.2.1+m≤(y'.1.size:Int))=true:=decide_eq_true hx1
       go_wp2
       go_region
       obtain ⟨w10,hw10⟩:∃w10,(w9.setCell ⟨T,2,none⟩ (.string (y'.1.extract y'.2.1.toNat (y'.2.1+m).toNat))).drew=w10:=⟨_,rfl⟩
       rw [hw10]
       have hI10:bK w0 w10 g y'.1 y'.2.1 y'.2.2.1 s0_3 y'.2.2.2:=hw10▸(HW9.st.far hne1 _).drew
       have hB10:Below w0.heap.size w0 w10:=hw10▸fE (bC HW9.below HW9.hT0)
       have hK10:aG w w10 g none:=hw10▸nU (fO HW9.keep HW9.hT _)
       have hR10:w10.heap[R]? =some (Obj.cells #[.int .i64 0,.string ⟨#[]⟩,.string ⟨#[]⟩,.int .i64 0] 95):=hw10▸(dX (p:=⟨T,2,none⟩) HW9.res (Ne.symm hTR) _)
       have hT10:w10.heap[T]? =some (Obj.cells #[.int .i64 1,.string b,.string (y'.1.extract y'.2.1.toNat (y'.2.1+m).toNat),.int .i64 r3] 95):=by
        have:=fJ HW9.tok 2 (.string (y'.1.extract y'.2.1.toNat (y'.2.1+m).toNat))
        rw [←hw10];show (w9.setCell ⟨T,2,none⟩ _).heap[T]? =_;simpa using this
       have hTa:=HW9.hT
       have hTb:=HW9.hT0
       have hM10:ny w10 s0_2 kw:=(by obtain ⟨Ax,cx,hgx,_⟩:=HI0.out;exact hM.keep hK10 hgx)
       clear hc0 hc1 hc4 hf1 hf4 ht0 ht2 htf2 HG9 HW9 hw10
       have hI10':=z0 hI10
       obtain ⟨AS10,cS10,HG10,hg10,HS10⟩:=hI10
       have hc1:=dW HG10
       have hc4:=eH HG10
       have hf1:=aj HG10 1
       have hf4:=aj HG10 4
       have ht0:w10.cell? ⟨T,0,none⟩=some (.int .i64 1):=(aC hT10 0).trans rfl
       have ht1:w10.cell? ⟨T,1,none⟩=some (.string b):=(aC hT10 1).trans rfl
       have ht2:w10.cell? ⟨T,2,none⟩=some (.string (y'.1.extract y'.2.1.toNat (y'.2.1+m).toNat)):=(aC hT10 2).trans rfl
       have ht3:w10.cell? ⟨T,3,none⟩=some (.int .i64 r3):=(aC hT10 3).trans rfl
       have hr0:w10.cell? ⟨R,0,none⟩=some (.int .i64 0):=(aC hR10 0).trans rfl
       have hr1:w10.cell? ⟨R,1,none⟩=some (.string ⟨#[]⟩):=(aC hR10 1).trans rfl
       have hr2:w10.cell? ⟨R,2,none⟩=some (.string ⟨#[]⟩):=(aC hR10 2).trans rfl
       have hr3:w10.cell? ⟨R,3,none⟩=some (.int .i64 0):=(aC hR10 3).trans rfl
       have hrf0:=aj hR10 0
       have hrf1:=aj hR10 1
       have hrf2:=aj hR10 2
       have hrf3:=aj hR10 3
       have hc2:=fK HG10
       have htf0:=aj hT10 0
       have hlk:∀q,(Instr.lookup 112 s0_2 (.string (y'.1.extract y'.2.1.toNat (y'.2.1+m).toNat)) false).run Tryz.prog (w10.drewN q)= .ok (.bool (kw.contains (y'.1.extract y'.2.1.toNat (y'.2.1+m).toNat))) (w10.drewN q):=fun q=>ny.run (W:=w10.drewN q) hM10 _
       have hr0:w10.cell? ⟨R,0,none⟩=some (.int .i64 0):=(aC hR10 0).trans rfl
       have hr1:w10.cell? ⟨R,1,none⟩=some (.string ⟨#[]⟩):=(aC hR10 1).trans rfl
       have hr2:w10.cell? ⟨R,2,none⟩=some (.string ⟨#[]⟩):=(aC hR10 2).trans rfl
       have hr3:w10.cell? ⟨R,3,none⟩=some (.int .i64 0):=(aC hR10 3).trans rfl
       have hrf0:=aj hR10 0
       have hrf1:=aj hR10 1
       have hrf2:=aj hR10 2
       have hrf3:=aj hR10 3
       cases hkw:kw.contains (y'.1.extract y'.2.1.toNat (y'.2.1+m).toNat)
       · rw [hkw] at hlk
         go_wp2
         repeat (go_quiet (fail);try go_wp2)
         have hR11:=fJ (fJ (fJ (fJ (dX (p:=⟨g,4,none⟩) (dX (p:=⟨g,1,none⟩) (show (w10.drewN nq).heap[R]? =_ from hR10) (Ne.symm hnel) (.int .i64 (y'.2.1+m))) (Ne.symm hnel) (.bool false)) 0 (.int .i64 1)) 1 (.string b)) 2 (.string (y'.1.extract y'.2.1.toNat (y'.2.1+m).toNat))) 3 (.int .i64 r3)
         have hv0:=aC hR11 0
         have hv1:=aC hR11 1
         have hv2:=aC hR11 2
         have hv3:=aC hR11 3
         simp at hv0 hv1 hv2 hv3
         (try simp only [Exit.inBlock,Exit.then])
         have hfk:eU kw 1 (y'.1.extract y'.2.1.toNat (y'.2.1+m).toNat)=1:=by simp [eU,hkw]
         simp only [jR] at *
         rw [hfk]
         refine bodyPost_ret (v:= .agg #[.int .i64 1,.string b,.string (y'.1.extract y'.2.1.toNat (y'.2.1+m).toNat),.int .i64 r3]) ?res rfl ⟨rfl,?i1,?i2,?i3⟩
         case res=>
          clear hR11
          unfold results
          rw [show Tryz.f66.results= #[.cell 2 95] from rfl]
          go_simp
         case i1=>exact (((((((hI10'.out.drewN nq).BM _).BL _).far (p:=⟨R,0,none⟩) hnel _).far (p:=⟨R,1,none⟩) hnel _).far (p:=⟨R,2,none⟩) hnel _).far (p:=⟨R,3,none⟩) hnel _)
         case i2=>exact bC (bC (bC (bC (bC (bC (aY hB10 nq) hg10) hg10) hLR) hLR) hLR) hLR
         case i3=>exact fO (p:=⟨R,3,none⟩) (fO (p:=⟨R,2,none⟩) (fO (p:=⟨R,1,none⟩) (fO (p:=⟨R,0,none⟩) (aG.Aa (aG.Aa (kJ hK10 nq) 1 _) 4 _) hLR' _) hLR' _) hLR' _) hLR' _
       · rw [hkw] at hlk
         go_wp2
         repeat (go_quiet (fail);try go_wp2)
         have hR11:=fJ (fJ (fJ (fJ (dX (p:=⟨g,4,none⟩) (dX (p:=⟨g,1,none⟩) (dX (p:=⟨T,0,none⟩) (show (w10.drewN nq).heap[R]? =_ from hR10) (Ne.symm hTR) (.int .i64 2)) (Ne.symm hnel) (.int .i64 (y'.2.1+m))) (Ne.symm hnel) (.bool false)) 0 (.int .i64 2)) 1 (.string b)) 2 (.string (y'.1.extract y'.2.1.toNat (y'.2.1+m).toNat))) 3 (.int .i64 r3)
         have hv0:=aC hR11 0
         have hv1:=aC hR11 1
         have hv2:=aC hR11 2
         have hv3:=aC hR11 3
         simp at hv0 hv1 hv2 hv3
         (try simp only [Exit.inBlock,Exit.then])
         have hfk:eU kw 1 (y'.1.extract y'.2.1.toNat (y'.2.1+m).toNat)=2:=by simp [eU,hkw]
         simp only [jR] at *
         rw [hfk]
         refine bodyPost_ret (v:= .agg #[.int .i64 2,.string b,.string (y'.1.extract y'.2.1.toNat (y'.2.1+m).toNat),.int .i64 r3]) ?res rfl ⟨rfl,?i1,?i2,?i3⟩
         case res=>
          clear hR11
          unfold results
          rw [show Tryz.f66.results= #[.cell 2 95] from rfl]
          go_simp
         case i1=>exact ((((((((hI10'.out.drewN nq).far (p:=⟨T,0,none⟩) hne1 (.int .i64 2)).BM _).BL _).far (p:=⟨R,0,none⟩) hnel _).far (p:=⟨R,1,none⟩) hnel _).far (p:=⟨R,2,none⟩) hnel _).far (p:=⟨R,3,none⟩) hnel _)
         case i2=>exact bC (bC (bC (bC (bC (bC (bC (aY hB10 nq) hTb) hg10) hg10) hLR) hLR) hLR) hLR
         case i3=>exact fO (p:=⟨R,3,none⟩) (fO (p:=⟨R,2,none⟩) (fO (p:=⟨R,1,none⟩) (fO (p:=⟨R,0,none⟩) (aG.Aa (aG.Aa (fO (p:=⟨T,0,none⟩) (kJ hK10 nq) hTa _) 1 _) 4 _) hLR' _) hLR' _) hLR' _) hLR' _
     · have hd0:decide (0<m)=false:=decide_eq_false hm0
       rw [if_neg hm0] at H
       go_wp2_with (go_at_call 120;go_loud (refine (dD.calls k g y.1 y.2.1 y.2.2.1 s0_3 y.2.2.2 m y'.1 y'.2.1 y'.2.2.1 y'.2.2.2 w0 _ (HW.out.st.alloc _) (aA HW.out.below _) hm').mono ?_;rintro e w8 ⟨rfl,hi8,hb8,hk8⟩;have HW8:=z0 (HW.out.step hi8 hb8 hk8 hne1 hnel hBg)))
       go_roundg 4
       case measure=>omega
       case rel=>exact ⟨y',rfl,rfl,⟨by omega⟩,⟨H⟩,HW8⟩
   all_goals
    have H:=HT.out
    rw [jo] at H
    obtain ⟨⟨m,y'⟩,hm,H⟩:=Option.bind_eq_some_iff.mp H
    have hgN:g≠wr.heap.size:=by obtain ⟨_,_,hx,_⟩:=HW.out.st;have:=kD hx;omega
    first
     |(have hm':bI.f k y.1 y.2.1 y.2.2.1 s0_3 y.2.2.2=some (m,y'.1,y'.2.1,y'.2.2.1,y'.2.2.2):=hm;obtain ⟨kv,hkv⟩:∃kv:Int,kv=7:=⟨_,rfl⟩;obtain ⟨kx,hkx⟩:∃kx,kx=jR 0:=⟨_,rfl⟩;have hcb0:wr.cell? ⟨B,0,none⟩=some (.int .i64 kv):=(by rw [hkv];exact (aC HW.out.tab 0).trans rfl);have hcb1:wr.cell? ⟨B,1,none⟩=some (.func (Fn.func 119) #[.pointer (some ⟨g,0,none⟩)] #[]):=(aC HW.out.tab 1).trans rfl;have hb0:decide ((0:Int)<6)=true:=(by decide);have HC:=fun w' h1 h2=>bI.calls k g y.1 y.2.1 y.2.2.1 s0_3 y.2.2.2 m y'.1 y'.2.1 y'.2.2.1 y'.2.2.2 w0 w' h1 h2 hm';have hfin:∀t,eU kw kx t=kv:=(by intro t;rw [hkx,hkv];simp [eU,jR]);have hk1:(kv==1)=false:=(by rw [hkv];rfl);have hk2:decide (kv=1)=false:=(by rw [hkv];rfl))
     |(have hm':aN.f k y.1 y.2.1 y.2.2.1 s0_3 y.2.2.2=some (m,y'.1,y'.2.1,y'.2.2.1,y'.2.2.2):=hm;obtain ⟨kv,hkv⟩:∃kv:Int,kv=3:=⟨_,rfl⟩;obtain ⟨kx,hkx⟩:∃kx,kx=jR 2:=⟨_,rfl⟩;have hcb0:wr.cell? ⟨B,4,none⟩=some (.int .i64 kv):=(by rw [hkv];exact (aC HW.out.tab 4).trans rfl);have hcb1:wr.cell? ⟨B,5,none⟩=some (.func (Fn.func 121) #[.pointer (some ⟨g,0,none⟩)] #[]):=(aC HW.out.tab 5).trans rfl;have hb0:decide ((2:Int)<6)=true:=(by decide);have HC:=fun w' h1 h2=>aN.calls k g y.1 y.2.1 y.2.2.1 s0_3 y.2.2.2 m y'.1 y'.2.1 y'.2.2.1 y'.2.2.2 w0 w' h1 h2 hm';have hfin:∀t,eU kw kx t=kv:=(by intro t;rw [hkx,hkv];simp [eU,jR]);have hk1:(kv==1)=false:=(by rw [hkv];rfl);have hk2:decide (kv=1)=false:=(by rw [hkv];rfl))
     |(have hm':gy.f k y.1 y.2.1 y.2.2.1 s0_3 y.2.2.2=some (m,y'.1,y'.2.1,y'.2.2.1,y'.2.2.2):=hm;obtain ⟨kv,hkv⟩:∃kv:Int,kv=4:=⟨_,rfl⟩;obtain ⟨kx,hkx⟩:∃kx,kx=jR 3:=⟨_,rfl⟩;have hcb0:wr.cell? ⟨B,6,none⟩=some (.int .i64 kv):=(by rw [hkv];exact (aC HW.out.tab 6).trans rfl);have hcb1:wr.cell? ⟨B,7,none⟩=some (.func (Fn.func 122) #[.pointer (some ⟨g,0,none⟩)] #[]):=(aC HW.out.tab 7).trans rfl;have hb0:decide ((3:Int)<6)=true:=(by decide);have HC:=fun w' h1 h2=>gy.calls k g y.1 y.2.1 y.2.2.1 s0_3 y.2.2.2 m y'.1 y'.2.1 y'.2.2.1 y'.2.2.2 w0 w' h1 h2 hm';have hfin:∀t,eU kw kx t=kv:=(by intro t;rw [hkx,hkv];simp [eU,jR]);have hk1:(kv==1)=false:=(by rw [hkv];rfl);have hk2:decide (kv=1)=false:=(by rw [hkv];rfl))
     |(have hm':gu.f k y.1 y.2.1 y.2.2.1 s0_3 y.2.2.2=some (m,y'.1,y'.2.1,y'.2.2.1,y'.2.2.2):=hm;obtain ⟨kv,hkv⟩:∃kv:Int,kv=5:=⟨_,rfl⟩;obtain ⟨kx,hkx⟩:∃kx,kx=jR 4:=⟨_,rfl⟩;have hcb0:wr.cell? ⟨B,8,none⟩=some (.int .i64 kv):=(by rw [hkv];exact (aC HW.out.tab 8).trans rfl);have hcb1:wr.cell? ⟨B,9,none⟩=some (.func (Fn.func 123) #[.pointer (some ⟨g,0,none⟩)] #[]):=(aC HW.out.tab 9).trans rfl;have hb0:decide ((4:Int)<6)=true:=(by decide);have HC:=fun w' h1 h2=>gu.calls k g y.1 y.2.1 y.2.2.1 s0_3 y.2.2.2 m y'.1 y'.2.1 y'.2.2.1 y'.2.2.2 w0 w' h1 h2 hm';have hfin:∀t,eU kw kx t=kv:=(by intro t;rw [hkx,hkv];simp [eU,jR]);have hk1:(kv==1)=false:=(by rw [hkv];rfl);have hk2:decide (kv=1)=false:=(by rw [hkv];rfl))
     |(have hm':dH.f k y.1 y.2.1 y.2.2.1 s0_3 y.2.2.2=some (m,y'.1,y'.2.1,y'.2.2.1,y'.2.2.2):=hm;obtain ⟨kv,hkv⟩:∃kv:Int,kv=6:=⟨_,rfl⟩;obtain ⟨kx,hkx⟩:∃kx,kx=jR 5:=⟨_,rfl⟩;have hcb0:wr.cell? ⟨B,10,none⟩=some (.int .i64 kv):=(by rw [hkv];exact (aC HW.out.tab 10).trans rfl);have hcb1:wr.cell? ⟨B,11,none⟩=some (.func (Fn.func 124) #[.pointer (some ⟨g,0,none⟩)] #[]):=(aC HW.out.tab 11).trans rfl;have hb0:decide ((5:Int)<6)=true:=(by decide);have HC:=fun w' h1 h2=>dH.calls k g y.1 y.2.1 y.2.2.1 s0_3 y.2.2.2 m y'.1 y'.2.1 y'.2.2.1 y'.2.2.2 w0 w' h1 h2 hm';have hfin:∀t,eU kw kx t=kv:=(by intro t;rw [hkx,hkv];simp [eU,jR]);have hk1:(kv==1)=false:=(by rw [hkv];rfl);have hk2:decide (kv=1)=false:=(by rw [hkv];rfl))
    have HC':=z0 HC
    have HFIN:=z0 hfin
    clear HC hfin hm'
    by_cases hm0:0<m
    · have hd0:decide (0<m)=true:=decide_eq_true hm0
      rw [if_pos hm0] at H
      obtain ⟨rfl,rfl,rfl⟩:m=n∧kx=kd∧y'=x:=by rw [hkx];simpa using H
      have HKV:=z0 (And.intro hkv hkx)
      clear hkv hkx
      go_wp2_with ((first|go_at_call 119|go_at_call 121|go_at_call 122|go_at_call 123|go_at_call 124);go_loud (refine (HC'.out _ (HW.out.st.alloc _) (aA HW.out.below _)).mono ?_;rintro e w8 ⟨rfl,hi8,hb8,hk8⟩;have HW8:=z0 (HW.out.step hi8 hb8 hk8 hne1 hnel hBg);have hN:=(hk8.2 wr.heap.size (by simp) (Ne.symm hgN) (by simp)).trans (dh wr _);have hnc:w8.cell? ⟨wr.heap.size,0,none⟩=some (.int .i64 kv):=(aC hN 0).trans rfl;have htc:w8.cell? ⟨T,0,none⟩=some (.int .i64 8):=(aC HW8.out.tok 0).trans rfl;have htf:=aj HW8.out.tok 0))
      go_region
      obtain ⟨w9,hw9⟩:∃w9,(w8.setCell ⟨T,0,none⟩ (.int .i64 kv)).drew=w9:=⟨_,rfl⟩
      rw [hw9]
      have HW9:yj w0 w w9 g T R B b r3 s0_3 kv y':=hw9▸HW8.out.kind kv hne1 hTR hTB'
      clear hnc htc htf hN hcb0 hcb1 hi8 hb8 hk8 hw9 HW8
      obtain ⟨AS9,cS9,HG9,hg9,HS9⟩:=HW9.st
      have hc0:=eX HG9
      have hc1:=dW HG9
      have hc4:=eH HG9
      have hf1:=aj HG9 1
      have hf4:=aj HG9 4
      have ht0:w9.cell? ⟨T,0,none⟩=some (.int .i64 kv):=(aC HW9.tok 0).trans rfl
      have ht2:w9.cell? ⟨T,2,none⟩=some (.string ⟨#[]⟩):=(aC HW9.tok 2).trans rfl
      have htf2:=aj HW9.tok 2
      have hwr:IntKind.i64.wrap (y'.2.1+m)=y'.2.1+m:=IntWalk.i64_in _ (by omega)
      have hwr2:wrap64 (y'.2.1+m)=y'.2.1+m:=(dZ _).symm.trans hwr
      have p1:(0≤y'.2.1)=True:=eq_true hx0
      have p2:(y'.2.1≤y'.2.1+m)=True:=eq_true (by omega)
      have p3:(y'.2.1+m≤(y'.1.size:Int))=True:=eq_true hx1
      have q1:decide (0≤y'.2.1)=true:=decide_eq_true hx0
      have q2:decide (y'.2.1≤y'.2.1+m)=true:=decide_eq_true (by omega)
      have q3:decide (y'.2.1+m≤(y'.1.size:Int))=true:=decide_eq_true hx1
      go_wp2
      go_region
      obtain ⟨w10,hw10⟩:∃w10,(w9.setCell ⟨T,2,none⟩ (.string (y'.1.extract y'.2.1.toNat (y'.2.1+m).toNat))).drew=w10:=⟨_,rfl⟩
      rw [hw10]
      have hI10:bK w0 w10 g y'.1 y'.2.1 y'.2.2.1 s0_3 y'.2.2.2:=hw10▸(HW9.st.far hne1 _).drew
      have hB10:Below w0.heap.size w0 w10:=hw10▸fE (bC HW9.below HW9.hT0)
      have hK10:aG w w10 g none:=hw10▸nU (fO HW9.keep HW9.hT _)
      have hR10:w10.heap[R]? =some (Obj.cells #[.int .i64 0,.string ⟨#[]⟩,.string ⟨#[]⟩,.int .i64 0] 95):=hw10▸(dX (p:=⟨T,2,none⟩) HW9.res (Ne.symm hTR) _)
      have hT10:w10.heap[T]? =some (Obj.cells #[.int .i64 kv,.string b,.string (y'.1.extract y'.2.1.toNat (y'.2.1+m).toNat),.int .i64 r3] 95):=by
       have:=fJ HW9.tok 2 (.string (y'.1.extract y'.2.1.toNat (y'.2.1+m).toNat))
       rw [←hw10];show (w9.setCell ⟨T,2,none⟩ _).heap[T]? =_;simpa using this
      have hTa:=HW9.hT
      have hTb:=HW9.hT0
      clear hc0 hc1 hc4 hf1 hf4 ht0 ht2 htf2 HG9 HW9 hw10
      have hI10':=z0 hI10
      obtain ⟨AS10,cS10,HG10,hg10,HS10⟩:=hI10
      have hc1:=dW HG10
      have hc4:=eH HG10
      have hf1:=aj HG10 1
      have hf4:=aj HG10 4
      have ht0:w10.cell? ⟨T,0,none⟩=some (.int .i64 kv):=(aC hT10 0).trans rfl
      have ht1:w10.cell? ⟨T,1,none⟩=some (.string b):=(aC hT10 1).trans rfl
      have ht2:w10.cell? ⟨T,2,none⟩=some (.string (y'.1.extract y'.2.1.toNat (y'.2.1+m).toNat)):=(aC hT10 2).trans rfl
      have ht3:w10.cell? ⟨T,3,none⟩=some (.int .i64 r3):=(aC hT10 3).trans rfl
      have hr0:w10.cell? ⟨R,0,none⟩=some (.int .i64 0):=(aC hR10 0).trans rfl
      have hr1:w10.cell? ⟨R,1,none⟩=some (.string ⟨#[]⟩):=(aC hR10 1).trans rfl
      have hr2:w10.cell? ⟨R,2,none⟩=some (.string ⟨#[]⟩):=(aC hR10 2).trans rfl
      have hr3:w10.cell? ⟨R,3,none⟩=some (.int .i64 0):=(aC hR10 3).trans rfl
      have hrf0:=aj hR10 0
      have hrf1:=aj hR10 1
      have hrf2:=aj hR10 2
      have hrf3:=aj hR10 3
      go_wp2
      repeat (go_quiet (fail);try go_wp2)
      have hR11:=fJ (fJ (fJ (fJ (dX (p:=⟨g,4,none⟩) (dX (p:=⟨g,1,none⟩) (show (w10.drewN nq).heap[R]? =_ from hR10) (Ne.symm hnel) (.int .i64 (y'.2.1+m))) (Ne.symm hnel) (.bool false)) 0 (.int .i64 kv)) 1 (.string b)) 2 (.string (y'.1.extract y'.2.1.toNat (y'.2.1+m).toNat))) 3 (.int .i64 r3)
      have hv0:=aC hR11 0
      have hv1:=aC hR11 1
      have hv2:=aC hR11 2
      have hv3:=aC hR11 3
      simp at hv0 hv1 hv2 hv3
      (try simp only [Exit.inBlock,Exit.then])
      have hfk:=HFIN.out (y'.1.extract y'.2.1.toNat (y'.2.1+m).toNat)
      rw [hfk]
      refine bodyPost_ret (v:= .agg #[.int .i64 kv,.string b,.string (y'.1.extract y'.2.1.toNat (y'.2.1+m).toNat),.int .i64 r3]) ?res rfl ⟨rfl,?i1,?i2,?i3⟩
      case res=>
       clear hR11
       unfold results
       rw [show Tryz.f66.results= #[.cell 2 95] from rfl]
       go_simp
      case i1=>exact (((((((hI10'.out.drewN nq).BM _).BL _).far (p:=⟨R,0,none⟩) hnel _).far (p:=⟨R,1,none⟩) hnel _).far (p:=⟨R,2,none⟩) hnel _).far (p:=⟨R,3,none⟩) hnel _)
      case i2=>exact bC (bC (bC (bC (bC (bC (aY hB10 nq) hg10) hg10) hLR) hLR) hLR) hLR
      case i3=>exact fO (p:=⟨R,3,none⟩) (fO (p:=⟨R,2,none⟩) (fO (p:=⟨R,1,none⟩) (fO (p:=⟨R,0,none⟩) (aG.Aa (aG.Aa (kJ hK10 nq) 1 _) 4 _) hLR' _) hLR' _) hLR' _) hLR' _
    · have hd0:decide (0<m)=false:=decide_eq_false hm0
      rw [if_neg hm0] at H
      go_wp2_with ((first|go_at_call 119|go_at_call 121|go_at_call 122|go_at_call 123|go_at_call 124);go_loud (refine (HC'.out _ (HW.out.st.alloc _) (aA HW.out.below _)).mono ?_;rintro e w8 ⟨rfl,hi8,hb8,hk8⟩;have HW8:=z0 (HW.out.step hi8 hb8 hk8 hne1 hnel hBg)))
      first
       |(go_roundg 5;(case measure=>omega);(case rel=>exact ⟨y',rfl,rfl,⟨by omega⟩,⟨H⟩,HW8⟩))
       |(go_roundg 3;(case measure=>omega);(case rel=>exact ⟨y',rfl,rfl,⟨by omega⟩,⟨H⟩,HW8⟩))
       |(go_roundg 2;(case measure=>omega);(case rel=>exact ⟨y',rfl,rfl,⟨by omega⟩,⟨H⟩,HW8⟩))
       |(go_roundg 1;(case measure=>omega);(case rel=>exact ⟨y',rfl,rfl,⟨by omega⟩,⟨H⟩,HW8⟩))
       |(go_roundg 0;(case measure=>omega);(case rel=>exact ⟨y',rfl,rfl,⟨by omega⟩,⟨H⟩,HW8⟩))
def E8 (w:World)(n:Nat):Prop:=w.heap.size≤n
theorem GI (k:Nat)(g:Nat)(s0_0:ByteArray)(s0_1:Int)(s0_2:Value)(s0_3:List ByteArray)(s0_4:Bool)(b r2:ByteArray)(r3:Int)(r4:Value)(r5:Bool)(w0 w:World)(hI:bK w0 w g s0_0 s0_1 s0_2 s0_3 s0_4)(hB:Below w0.heap.size w0 w)(h:au.f k s0_0 s0_1 s0_2 s0_3 s0_4=some (b,r2,r3,r4,r5))(hG_:Glob w0)(he:r3=(r2.size:Int)):
 Calls Tryz.prog 66 #[.pointer (some ⟨g,0,none⟩)] w fun e w'=>e= .returned (.agg #[.int .i64 0,.string b,.string ⟨#[]⟩,.int .i64 r3])∧bK w0 w' g r2 r3 r4 s0_3 r5∧Below w0.heap.size w0 w'∧aG w w' g none:=by
 have he':=z0 he
 clear he
 have HI0:=z0 hI
 have HK:=z0 (aG.refl w g none)
 have HB:=z0 hB
 go_enter Tryz.func66,Tryz.ntmps66
 have hnel:g≠w.heap.size:=by obtain ⟨A3,c3,hb,_⟩:=hI;intro hx;subst hx;simp at hb
 go_wp2_with (go_at_call 118;go_loud (refine (au.calls k g s0_0 s0_1 s0_2 s0_3 s0_4 b r2 r3 r4 r5 w0 _ (HI0.out.alloc _) (aA HB.out _) h hG_).mono ?_;rintro e w5 ⟨rfl,hi,hb,hk⟩;have hi':=z0 hi;obtain ⟨AS,cS,HG,hg,HS⟩:=hi;have hc1:=dW HG))
 obtain ⟨w6,hw6⟩:∃w6,w5.alloc (Obj.cells #[.int .i64 0,.string b,.string ⟨#[]⟩,.int .i64 r3] 95)=w6:=⟨_,rfl⟩
 rw [hw6]
 have hI6:bK w0 w6 g r2 r3 r4 s0_3 r5:=hw6▸hi'.out.alloc _
 have hR5:=(hk.2 w.heap.size (by simp) (Ne.symm hnel) (by simp)).trans (dh w _)
 have hlt:w.heap.size<w5.heap.size:=by have h1:=hk.1;simp at h1;omega
 have hR6:w6.heap[w.heap.size]? =some (Obj.cells #[.int .i64 0,.string ⟨#[]⟩,.string ⟨#[]⟩,.int .i64 0] 95):=by rw [←hw6];exact (Below.heap_alloc w5 _ _ hlt).trans hR5
 have hT6:w6.heap[w5.heap.size]? =some (Obj.cells #[.int .i64 0,.string b,.string ⟨#[]⟩,.int .i64 r3] 95):=by rw [←hw6];exact dh w5 _
 have hB6:Below w0.heap.size w0 w6:=hw6▸aA hb _
 have hne1:g≠w5.heap.size:=by intro hx;subst hx;simp at HG
 have hTR:w5.heap.size≠w.heap.size:=by omega
 have hLR:E8 w0 w.heap.size:=HB.out.size
 have hLR':E8 w w.heap.size:=Nat.le_refl _
 have hLT:E8 w w5.heap.size:=Nat.le_of_lt hlt
 have hLT0:E8 w0 w5.heap.size:=hb.size
 have hI6':=z0 hI6
 have hK6:ah (aG w w6 g none):=⟨hw6▸lH (aG.trans (lH (aG.refl w g none) _) hk (.inl rfl)) _⟩
 clear HG hc1
 obtain ⟨AS6,cS6,HG,hg6,HS6⟩:=hI6
 have hc0:=eX HG
 have hc1:=dW HG
 have hc4:=eH HG
 have hf0:=aj HG 0
 have hf1:=aj HG 1
 have hdec:(r3==(r2.size:Int))=true:=(by simpa using he'.out)
 have hdec2:decide (r3=(r2.size:Int))=true:=(by simpa using he'.out)
 have ht0:w6.cell? ⟨w5.heap.size,0,none⟩=some (.int .i64 0):=(aC hT6 0).trans rfl
 have ht1:w6.cell? ⟨w5.heap.size,1,none⟩=some (.string b):=(aC hT6 1).trans rfl
 have ht2:w6.cell? ⟨w5.heap.size,2,none⟩=some (.string ⟨#[]⟩):=(aC hT6 2).trans rfl
 have ht3:w6.cell? ⟨w5.heap.size,3,none⟩=some (.int .i64 r3):=(aC hT6 3).trans rfl
 have hr0:w6.cell? ⟨w.heap.size,0,none⟩=some (.int .i64 0):=(aC hR6 0).trans rfl
 have hr1:w6.cell? ⟨w.heap.size,1,none⟩=some (.string ⟨#[]⟩):=(aC hR6 1).trans rfl
 have hr2:w6.cell? ⟨w.heap.size,2,none⟩=some (.string ⟨#[]⟩):=(aC hR6 2).trans rfl
 have hr3:w6.cell? ⟨w.heap.size,3,none⟩=some (.int .i64 0):=(aC hR6 3).trans rfl
 have hrf0:=aj hR6 0
 have hrf1:=aj hR6 1
 have hrf2:=aj hR6 2
 have hrf3:=aj hR6 3
 have hft0:=aj hT6 0
 generalize w5.heap.size=T at *
 generalize w.heap.size=R at *
 repeat (go_quiet (fail);try go_wp2)
 have hR11:=fJ (fJ (fJ (fJ (show (w6.drewN nq).heap[R]? =_ from hR6) 0 (.int .i64 0)) 1 (.string b)) 2 (.string ⟨#[]⟩)) 3 (.int .i64 r3)
 have hv0:=aC hR11 0
 have hv1:=aC hR11 1
 have hv2:=aC hR11 2
 have hv3:=aC hR11 3
 simp at hv0 hv1 hv2 hv3
 (try simp only [Exit.inBlock,Exit.then])
 refine bodyPost_ret (v:= .agg #[.int .i64 0,.string b,.string ⟨#[]⟩,.int .i64 r3]) ?res rfl ⟨rfl,?i1,?i2,?i3⟩
 case res=>
  clear hR11
  unfold results
  rw [show Tryz.f66.results= #[.cell 2 95] from rfl]
  go_simp
 case i1=>exact (((((hI6'.out.drewN nq).far (p:=⟨R,0,none⟩) hnel _).far (p:=⟨R,1,none⟩) hnel _).far (p:=⟨R,2,none⟩) hnel _).far (p:=⟨R,3,none⟩) hnel _)
 case i2=>exact bC (bC (bC (bC (aY hB6 nq) hLR) hLR) hLR) hLR
 case i3=>exact fO (p:=⟨R,3,none⟩) (fO (p:=⟨R,2,none⟩) (fO (p:=⟨R,1,none⟩) (fO (p:=⟨R,0,none⟩) (kJ hK6.out nq) hLR' _) hLR' _) hLR' _) hLR' _
end Go.Proofs.YtolaiebjmhieiaaGreatDoor.OScan
end
section
namespace Go.Proofs.YtolaiebjmhieiaaGreatDoor.OScan
open Go.RowKit YtolaiebjmhieiaaGreatDoorW.PrintWords YtolaiebjmhieiaaGreatDoorW.PrintLast YtolaiebjmhieiaaGreatDoorW.PrintMore
theorem wr {a:Int}(h0: -9223372036854775808≤a)(h1:a≤9223372036854775807):wrap64 a=a:=by unfold wrap64;omega
def nx (s:ByteArray)(i:Int):Int:=if i≥(s.size:Int) then 0 else bt s i
def isL (a:Int):Bool:=(dV.f a).getD false
def isD (a:Int):Bool:=(eu.f a).getD false
theorem qQ (a:Int):dV.f a=some (isL a):=by
 by_cases h1:a≥97<;>by_cases h2:a≤122<;>by_cases h3:a≥65<;>by_cases h4:a≤90<;>simp [isL,dV.f,h1,h2,h3,h4]
theorem qR (a:Int):eu.f a=some (isD a):=by unfold isD eu.f;repeat' split<;>rfl
theorem CY:isL 0=false:=by decide
theorem zC:isD 0=false:=by decide
theorem jX (s:ByteArray)(i:Int)(h:(s.size:Int)≤i):nx s i=0:=if_pos h
abbrev MF:=Value→Option (Int × ByteArray × Int × Value × Bool)
def Tried (s:ByteArray)(at0:Int)(c:Bool)(B:Int)(r:MF):Prop:=∃n,(∀v,r v=some (n,s,at0,v,c))∧0≤n∧n≤B
theorem Tried.ite {s:ByteArray}{at0:Int}{c:Bool}{B:Int}{P:Prop}[Decidable P]{f g:MF}(h1:P→Tried s at0 c B f)(h2:¬P→Tried s at0 c B g):Tried s at0 c B (fun v=>if P then f v else g v):=by
 by_cases h:P
 · obtain ⟨n,hn,hr⟩:=h1 h;exact ⟨n,fun v=>(if_pos h).trans (hn v),hr⟩
 · obtain ⟨n,hn,hr⟩:=h2 h;exact ⟨n,fun v=>(if_neg h).trans (hn v),hr⟩
theorem Tried.here {s:ByteArray}{at0:Int}{c:Bool}{B n:Int}(h0:0≤n)(h1:n≤B):Tried s at0 c B (fun v=>some (n,s,at0,v,c)):=⟨n,fun _=>rfl,h0,h1⟩
theorem Tried.le {s:ByteArray}{at0:Int}{c:Bool}{B B':Int}{f:MF}(h:Tried s at0 c B f)(hB:B≤B'):Tried s at0 c B' f:=by
 obtain ⟨n,hn,h0,h1⟩:=h;exact ⟨n,hn,h0,by omega⟩
theorem mP (a b:ByteArray):∃t,strings_HasPrefix.f a b=some t∧(t=true→b.size≤a.size):=by
 simp only [strings_HasPrefix.f,stringslite_HasPrefix.f]
 by_cases h:(a.size:Int)≥(b.size:Int)
 · rw [if_pos h,if_pos (by omega),if_pos (by omega)]
   exact ⟨_,rfl,fun _=>by omega⟩
 · rw [if_neg h]
   exact ⟨_,rfl,fun h=>by simp at h⟩
theorem vU (b:ByteArray)(x:UInt8)(hb:b.size≤1000000):∃t,strings_HasSuffix.f b (⟨#[x]⟩:ByteArray)=some t:=by
 simp only [strings_HasSuffix.f,stringslite_HasSuffix.f]
 have e1:((⟨#[x]⟩:ByteArray).size:Int)=1:=rfl
 rw [e1,wr (a:=(b.size:Int)-1) (by omega) (by omega)]
 by_cases hb1:(b.size:Int)≥1
 · rw [if_pos hb1,if_pos (by omega),if_pos (by omega)]
   exact ⟨_,rfl⟩
 · rw [if_neg hb1]
   exact ⟨_,rfl⟩
theorem Gz (b:ByteArray)(x:UInt8)(hb:b.size≤1000000):∃t,strings_TrimSuffix.f b (⟨#[x]⟩:ByteArray)=some t∧t.size≤b.size:=by
 simp only [strings_TrimSuffix.f,stringslite_TrimSuffix.f,stringslite_HasSuffix.f]
 have e1:((⟨#[x]⟩:ByteArray).size:Int)=1:=rfl
 rw [e1,wr (a:=(b.size:Int)-1) (by omega) (by omega)]
 by_cases hb1:(b.size:Int)≥1
 · rw [if_pos hb1,if_pos (by omega),if_pos (by omega)]
   simp only [Option.bind_some]
   split
   · rw [if_pos (by omega),if_pos (by omega)]
     exact ⟨_,rfl,by rw [ByteArray.size_extract];omega⟩
   · exact ⟨_,rfl,Nat.le_refl _⟩
 · rw [if_neg hb1]
   exact ⟨_,rfl,Nat.le_refl _⟩
theorem index_room:∀(s sub:List UInt8),0≤Lib.index s sub→Lib.index s sub+sub.length≤s.length
 |[],sub,h=>by
  unfold Lib.index at *
  split at h
  · rename_i he;simp at he;subst he;simp
  · omega
 |b::l,sub,h=>by
  unfold Lib.index at *
  split
  · rename_i hp
    have:=(List.isPrefixOf_iff_prefix.1 hp).length_le
    simp only [List.length_cons] at *;omega
  · rename_i hp
    rw [if_neg hp] at h
    split
    · rename_i he;rw [if_pos he] at h;omega
    · rename_i he
      have h1:=Lib.index_ge l sub
      have h2:Lib.index l sub≠ -1:=by simpa using he
      have:=index_room l sub (by omega)
      simp only [List.length_cons];omega
theorem qO (a:ByteArray)(x y:UInt8)(h:strings_HasPrefix.f a ⟨#[x,y]⟩=some true):∃l,a.data.toList=x::y::l:=by
 simp only [strings_HasPrefix.f,stringslite_HasPrefix.f] at h
 have e1:((⟨#[x,y]⟩:ByteArray).size:Int)=2:=rfl
 have e2:(⟨#[x,y]⟩:ByteArray).toList=[x,y]:=by rw [Lib.toList_data]
 rw [e1,e2] at h
 by_cases hb:(a.size:Int)≥2
 · rw [if_pos hb,if_pos (by omega),if_pos (by omega)] at h
   simp only [Option.bind_some,Option.some.injEq,beq_iff_eq] at h
   rw [Lib.toList_data,Lib.Pa.extract_upto_list] at h
   have hl:a.data.toList.take 2=[x,y]:=h
   refine ⟨a.data.toList.drop 2,?_⟩
   rw [←List.take_append_drop 2 a.data.toList,hl];simp
 · rw [if_neg hb] at h
   simp at h
section
variable (s:ByteArray)(at0:Int)(sg:List ByteArray)(c:Bool)
theorem gJ (hs:s.size≤1000000)(h0:0≤at0)(h1:at0≤s.size)(n:Int)(hn0:0≤n)(hn:n≤2000000):
 ∀v,ay.f s at0 v sg c n=some (nx s (at0+n),s,at0,v,c):=by
 intro v
 unfold ay.f nx
 rw [wr (by omega) (by omega)]
 split
 · rfl
 · rw [if_pos (by omega),if_pos (by omega)]
theorem mO (hs:s.size≤1000000)(h0:0≤at0)(h1:at0≤s.size):∀v,dQ.f s at0 v sg c=some (s.extract at0.toNat s.size,s,at0,v,c):=by
 intro v;unfold dQ.f;rw [if_pos h0,if_pos (by omega)]
theorem EF (hs:s.size≤1000000)(h0:0≤at0)(h1:at0≤s.size):∀(d k:Nat) (x:Int),0≤x→at0+x≤s.size→(s.size:Int)-(at0+x)≤d→d<k→Tried s at0 c (s.size-at0) (fun v=>dD.l0 k x s at0 v sg c)
 |d,0,_,_,_,_,h=>by omega
 |d,k+1,x,hx0,hx1,hd,hk=>by
  have hn:=gJ s at0 sg c hs h0 h1 x hx0 (by omega)
  simp only [dD.l0,hn,Option.bind_some,qQ,qR]
  by_cases hp:at0+x<s.size
  · obtain ⟨d',rfl⟩:∃d',d=d'+1:=⟨d-1,by omega⟩
    have ih:=EF hs h0 h1 d' k (x+1) (by omega) (by omega) (by omega) (by omega)
    simp only [wr (a:=x+1) (by omega) (by omega)]
    exact Tried.ite (fun _=>ih) fun _=>Tried.ite (fun _=>ih) fun _=>Tried.here hx0 (by omega)
  · rw [jX s _ (by omega),CY,zC]
    simp only [Bool.false_eq_true,if_false]
    exact Tried.here hx0 (by omega)
theorem Io (hs:s.size≤1000000)(h0:0≤at0)(h1:at0≤s.size)(k:Nat)(hk:s.size<k):Tried s at0 c (s.size-at0) (fun v=>dD.f k s at0 v sg c):=by
 have hn:=gJ s at0 sg c hs h0 h1 0 (by omega) (by omega)
 simp only [dD.f,hn,Option.bind_some,qQ]
 exact Tried.ite (fun _=>EF s at0 sg c hs h0 h1 s.size k 0 (by omega) (by omega) (by omega) hk) fun _=>Tried.here (by omega) (by omega)
theorem zn (hs:s.size≤1000000)(h0:0≤at0)(h1:at0≤s.size):∀(d k:Nat) (x:Int),1≤x→at0+x≤s.size→(s.size:Int)-(at0+x)≤d→d<k→Tried s at0 c (s.size-at0) (fun v=>aN.l0 k x s at0 v sg c)
 |d,0,_,_,_,_,h=>by omega
 |d,k+1,x,hx0,hx1,hd,hk=>by
  have hn:=gJ s at0 sg c hs h0 h1 x (by omega) (by omega)
  have hm:=gJ s at0 sg c hs h0 h1 (x-1) (by omega) (by omega)
  simp only [aN.l0,wr (a:=x-1) (by omega) (by omega),wr (a:=x+1) (by omega) (by omega),hn,hm,Option.bind_some,qQ,qR]
  by_cases hp:at0+x<s.size
  · obtain ⟨d',rfl⟩:∃d',d=d'+1:=⟨d-1,by omega⟩
    have ih:=zn hs h0 h1 d' k (x+1) (by omega) (by omega) (by omega) (by omega)
    have me:Tried s at0 c (s.size-at0) (fun v=>some (x,s,at0,v,c)):=Tried.here (by omega) (by omega)
    repeat' (first|exact ih|exact me|(refine Tried.ite (fun _=> ?_) (fun _=> ?_)))
  · rw [jX s _ (by omega),CY,zC]
    have z1:¬((0:Int)=46):=by decide
    have z2:¬((0:Int)=43):=by decide
    have z3:¬((0:Int)=45):=by decide
    simp only [Bool.false_eq_true,if_false,z1,z2,z3]
    exact Tried.here (by omega) (by omega)
theorem tH (hs:s.size≤1000000)(h0:0≤at0)(h1:at0≤s.size)(k:Nat)(hk:s.size+1<k)(b:Bool)(hb:b=false→at0<s.size):Tried s at0 c (s.size-at0) (fun v=>aN.j0 k b s at0 v sg c):=by
 obtain ⟨k,rfl⟩:∃m,k=m+1:=⟨k-1,by omega⟩
 simp only [aN.j0]
 refine Tried.ite (fun _=>Tried.here (by omega) (by omega)) fun hb'=> ?_
 have:=hb (by simpa using hb')
 exact zn s at0 sg c hs h0 h1 s.size k 1 (by omega) (by omega) (by omega) (by omega)
theorem DX (hs:s.size≤1000000)(h0:0≤at0)(h1:at0≤s.size)(k:Nat)(hk:s.size+1<k):Tried s at0 c (s.size-at0) (fun v=>aN.f k s at0 v sg c):=by
 have hn:=gJ s at0 sg c hs h0 h1 0 (by omega) (by omega)
 have hm:=gJ s at0 sg c hs h0 h1 1 (by omega) (by omega)
 simp only [aN.f,hn,hm,Option.bind_some,qR]
 have hp:isD (nx s (at0+0))=true∨nx s (at0+0)=46→at0<s.size:=fun h=>by
  by_cases hp:at0<s.size
  · exact hp
  · rw [jX s _ (by omega),zC] at h;simp at h
 exact Tried.ite (fun h=>tH s at0 sg c hs h0 h1 k hk _ fun _=>hp (.inl h)) fun _=>
  Tried.ite (fun h=>tH s at0 sg c hs h0 h1 k hk _ fun _=>hp (.inr h)) fun _=>tH s at0 sg c hs h0 h1 k hk _ (by simp)
theorem tq (hs:s.size≤1000000)(h0:0≤at0)(h1:at0≤s.size)(q:Int)(hq:q≠0):∀(d k:Nat) (x:Int),0≤x→x≤1500000→(s.size:Int)-(at0+x)≤d→d<k→Tried s at0 c (s.size-at0) (fun v=>bU.l0 k q x s at0 v sg c)
 |d,0,_,_,_,_,h=>by omega
 |d,k+1,x,hx0,hx1,hd,hk=>by
  have hn:=gJ s at0 sg c hs h0 h1 x hx0 (by omega)
  have hm:=gJ s at0 sg c hs h0 h1 (x+1) (by omega) (by omega)
  simp only [bU.l0,wr (a:=at0+x) (by omega) (by omega),wr (a:=x+1) (by omega) (by omega),wr (a:=x+1+1) (by omega) (by omega),hn,hm,Option.bind_some]
  have z:Tried s at0 c (s.size-at0) (fun v=>some (0,s,at0,v,c)):=Tried.here (by omega) (by omega)
  refine Tried.ite (fun hp=> ?_) fun _=>z
  have ih:=tq hs h0 h1 q hq (d-1) k (x+1) (by omega) (by omega) (by omega) (by omega)
  have ih2:=tq hs h0 h1 q hq (d-1) k (x+1+1) (by omega) (by omega) (by omega) (by omega)
  have me:Tried s at0 c (s.size-at0) (fun v=>some (x+1,s,at0,v,c)):=Tried.here (by omega) (by omega)
  repeat' (first|exact me|exact z|exact ih|exact ih2|(refine Tried.ite (fun _=> ?_) (fun _=> ?_)))
theorem wC (hs:s.size≤1000000)(h0:0≤at0)(h1:at0≤s.size)(k:Nat)(hk:s.size<k)(q:Int)(hq:q≠0):Tried s at0 c (s.size-at0) (fun v=>bU.f k s at0 v sg c q):=by
 have hn:=gJ s at0 sg c hs h0 h1 0 (by omega) (by omega)
 simp only [bU.f,hn,Option.bind_some]
 exact Tried.ite (fun _=>tq s at0 sg c hs h0 h1 q hq s.size k 1 (by omega) (by omega) (by omega) hk) fun _=>Tried.here (by omega) (by omega)
theorem I4 (hs:s.size≤1000000)(h0:0≤at0)(h1:at0≤s.size)(k:Nat)(hk:s.size<k):Tried s at0 c (s.size-at0) (fun v=>gy.f k s at0 v sg c):=by
 obtain ⟨n,h,hn⟩:=wC s at0 sg c hs h0 h1 k hk 39 (by decide)
 exact ⟨n,fun v=>by simp only [gy.f,h,Option.bind_some],hn⟩
theorem GR (hs:s.size≤1000000)(h0:0≤at0)(h1:at0≤s.size)(k:Nat)(hk:s.size<k):Tried s at0 c (s.size-at0) (fun v=>gu.f k s at0 v sg c):=by
 obtain ⟨n,h,hn⟩:=wC s at0 sg c hs h0 h1 k hk 34 (by decide)
 exact ⟨n,fun v=>by simp only [gu.f,h,Option.bind_some],hn⟩
theorem EG (hs_:s.size≤1000000)(h0_:0≤at0)(h1_:at0≤s.size):∀(d k:Nat) (r:ByteArray) (x:Int),r.size≤1000000→0≤x→x≤r.size→(r.size:Int)-x≤d→d<k→Tried s at0 c r.size (fun v=>bI.l0 k r x s at0 v sg c)
 |d,0,_,_,_,_,_,_,h=>by omega
 |d,k+1,r,x,hr,hx0,hx1,hd,hk=>by
  simp only [bI.l0,if_pos hx0,if_pos hx1,strings_IndexByte.f,Option.bind_some]
  have hg:=Lib.indexByte_ge (r.extract x.toNat r.size).data.toList (10:Int).toNat.toUInt8
  generalize hi:Lib.indexByte (r.extract x.toNat r.size).data.toList (10:Int).toNat.toUInt8=t at *
  refine Tried.ite (fun _=>Tried.here (by omega) (Int.le_refl _)) fun hneg=> ?_
  obtain ⟨o,rfl⟩:∃o:Nat,t=o:=⟨t.toNat,by omega⟩
  have h1:=(Lib.indexByte_some hi).1
  have hlt:o<(r.extract x.toNat r.size).data.toList.length:=by
   by_cases hq:o<(r.extract x.toNat r.size).data.toList.length
   · exact hq
   · rw [List.getElem?_eq_none (by omega)] at h1;simp at h1
  rw [Lib.extract_to_end,List.length_drop,←Lib.size_eq] at hlt
  have p1:0≤x+(o:Int):=by omega
  have p2:x+(o:Int)≤r.size:=by omega
  have hsz:(r.extract 0 (x+o).toNat).size≤(x+o).toNat:=by rw [ByteArray.size_extract];omega
  obtain ⟨t1,ht1,hl1⟩:=Gz (r.extract 0 (x+o).toNat) 13 (by omega)
  obtain ⟨t2,ht2⟩:=vU (r.extract 0 (x+o).toNat) 92 (by omega)
  obtain ⟨t3,ht3⟩:=vU t1 92 (by omega)
  simp only [wr (a:=x+o) (by omega) (by omega),wr (a:=x+o+1) (by omega) (by omega),if_pos p1,if_pos p2,ht1,ht2,ht3,Option.bind_some]
  have ih:=EG hs_ h0_ h1_ (d-1) k r (x+o+1) hr (by omega) (by omega) (by omega) (by omega)
  exact Tried.ite (fun _=>ih) fun _=>Tried.ite (fun _=>ih) fun _=>Tried.here (by omega) (by omega)
theorem Ip (hs:s.size≤1000000)(h0:0≤at0)(h1:at0≤s.size)(k:Nat)(hk:s.size+1<k):Tried s at0 c (s.size-at0) (fun v=>bI.f k s at0 v sg c):=by
 obtain ⟨k,rfl⟩:∃m,k=m+1:=⟨k-1,by omega⟩
 have hn:=gJ s at0 sg c hs h0 h1 0 (by omega) (by omega)
 have hr:=mO s at0 sg c hs h0 h1
 have hsz:(s.extract at0.toNat s.size).size=s.size-at0.toNat:=by rw [ByteArray.size_extract];omega
 have key:∀b:Bool,Tried s at0 c (s.size-at0) (fun v=>bI.j0 (k+1) b s at0 v sg c):=fun b=>by
  simp only [bI.j0,hr,Option.bind_some]
  exact Tried.ite (fun _=>Tried.here (by omega) (by omega)) fun _=>(EG s at0 sg c hs h0 h1 s.size k (s.extract at0.toNat s.size) 0 (by omega) (by omega) (by omega) (by omega) (by omega)).le (by omega)
 simp only [bI.f,hn,Option.bind_some]
 exact Tried.ite (fun _=>key _) fun _=>key _
theorem Eu (hs:s.size≤1000000)(h0:0≤at0)(h1:at0≤s.size):∀(d k:Nat) (x j:Int),0≤x→at0+x≤s.size→0≤j→sg.length≤1000000→(sg.length:Int)-j≤d→d<k→Tried s at0 c (s.size-at0) (fun v=>dH.l0 k x sg (sg.length:Int) j s at0 v sg c)
 |d,0,_,_,_,_,_,_,_,h=>by omega
 |d,k+1,x,j,hx0,hx1,hj0,hj1,hd,hk=>by
  have hr:=mO s at0 sg c hs h0 h1
  have hsz:(s.extract at0.toNat s.size).size=s.size-at0.toNat:=by rw [ByteArray.size_extract];omega
  obtain ⟨t,ht,hle⟩:=mP (s.extract at0.toNat s.size) (jv ByteArray.empty sg j)
  simp only [dH.l0,hr,ht,Option.bind_some]
  refine Tried.ite (fun hlt=> ?_) fun _=>Tried.here hx0 (by omega)
  simp only [if_pos hj0,if_pos hlt,wr (a:=j+1) (by omega) (by omega)]
  have ih:=fun x hx0 hx1=>Eu hs h0 h1 (d-1) k x (j+1) hx0 hx1 (by omega) hj1 (by omega) (by omega)
  refine Tried.ite (fun _=>Tried.ite (fun hb=> ?_) fun _=>ih _ hx0 hx1) fun _=>ih _ hx0 hx1
  have:=hle hb
  exact ih _ (by omega) (by omega)
theorem G6 (hs:s.size≤1000000)(h0:0≤at0)(h1:at0≤s.size)(k:Nat)(hl:sg.length≤1000000)(hk:sg.length<k):Tried s at0 c (s.size-at0) (fun v=>dH.f k s at0 v sg c):=
 Eu s at0 sg c hs h0 h1 sg.length k 0 0 (by omega) (by omega) (by omega) hl (by omega) hk
theorem Dq (hs:s.size≤1000000)(h0:0≤at0)(h1:at0≤s.size):∃r:Bool × Int × Bool,(∀v,dU.f s at0 v sg c=some (r.1,s,r.2.1,v,r.2.2))∧(r.1=false→r.2.1=at0∧r.2.2=c)∧(r.1=true→at0<r.2.1∧r.2.1≤s.size):=by
 have hr:=mO s at0 sg c hs h0 h1
 have hsz:(s.extract at0.toNat s.size).size=s.size-at0.toNat:=by rw [ByteArray.size_extract];omega
 simp only [dU.f,hr,Option.bind_some]
 generalize s.extract at0.toNat s.size=R at *
 have hRl:R.data.toList.length=R.size:=by rw [←Lib.size_eq]
 obtain ⟨t,ht,hle⟩:=mP R ⟨#[47,47]⟩
 simp only [ht,Option.bind_some]
 cases t with
 |true=>
  obtain ⟨l,hl⟩:=qO R 47 47 ht
  have hsz2:2≤R.size:=by rw [←hRl,hl];simp
  simp only [strings_IndexByte.f,Option.bind_some,if_true]
  have hg:=Lib.indexByte_ge R.data.toList (10:Int).toNat.toUInt8
  have hpos:Lib.indexByte R.data.toList (10:Int).toNat.toUInt8≠0:=by
   rw [hl];unfold Lib.indexByte
   have:((47:UInt8)==(10:Int).toNat.toUInt8)=false:=by decide
   rw [this];simp only [Bool.false_eq_true,if_false]
   have:=Lib.indexByte_ge (47::l) (10:Int).toNat.toUInt8
   split
   · omega
   · rename_i hne;have:Lib.indexByte (47::l) (10:Int).toNat.toUInt8≠ -1:=by simpa using hne
     omega
  generalize hi:Lib.indexByte R.data.toList (10:Int).toNat.toUInt8=t at *
  by_cases hneg:t<0
  · exact ⟨(true,wrap64 (at0+R.size),c),fun v=>by rw [if_pos hneg],by simp,fun _=>by simp only;rw [wr (by omega) (by omega)];omega⟩
  · obtain ⟨o,rfl⟩:∃o:Nat,t=o:=⟨t.toNat,by omega⟩
    have h1':=(Lib.indexByte_some hi).1
    have hlt:o<R.data.toList.length:=by
     by_cases hq:o<R.data.toList.length
     · exact hq
     · rw [List.getElem?_eq_none (by omega)] at h1';simp at h1'
    exact ⟨(true,wrap64 (at0+o),c),fun v=>by rw [if_neg hneg],by simp,fun _=>by simp only;rw [wr (by omega) (by omega)];omega⟩
 |false=>
  simp only [Bool.false_eq_true,if_false]
  obtain ⟨t,ht,hle⟩:=mP R ⟨#[47,42]⟩
  simp only [ht,Option.bind_some]
  cases t with
  |false=>exact ⟨(false,at0,c),fun v=>rfl,by simp,by simp⟩
  |true=>
   have hsz2:2≤R.size:=hle rfl
   have hx2:(R.extract 2 R.size).size=R.size-2:=by rw [ByteArray.size_extract];omega
   have hxl:(R.extract 2 R.size).data.toList.length=R.size-2:=by rw [←Lib.size_eq,hx2]
   have q1:(2:Int)≤R.size:=by omega
   have q2:(R.extract 2 R.size).size<4294967281:=by omega
   simp only [if_true,if_pos q1,strings_Index.f,if_pos q2,Option.bind_some]
   have hg:=Lib.index_ge (R.extract 2 R.size).data.toList (⟨#[42,47]⟩:ByteArray).data.toList
   have hroom:=index_room (R.extract 2 R.size).data.toList (⟨#[42,47]⟩:ByteArray).data.toList
   have e2:((⟨#[42,47]⟩:ByteArray).data.toList.length:Int)=2:=rfl
   generalize Lib.index (R.extract 2 R.size).data.toList (⟨#[42,47]⟩:ByteArray).data.toList=t at *
   have ht1:t≤R.size:=by
    by_cases ht0:0≤t
    · have:=hroom ht0;omega
    · omega
   simp only [wr (a:=t+4) (by omega) (by omega),wr (a:=at0+R.size) (by omega) (by omega),wr (a:=at0+(t+4)) (by omega) (by omega)]
   have hct:∀b x:ByteArray,b.size≤1000000→∃r,strings_Contains.f b x=some r:=fun b x hb=>⟨_,by unfold strings_Contains.f;rw [if_pos (by omega)]⟩
   obtain ⟨r,hcr⟩:=hct R ⟨#[10]⟩ (by omega)
   by_cases h4:t+4<4
   · simp only [if_pos h4]
     cases c with
     |true=>exact ⟨(true,at0+R.size,true),fun v=>rfl,by simp,fun _=>by simp only;omega⟩
     |false=>
      have q3:(0:Int)≤R.size:=by omega
      simp only [Bool.false_eq_true,if_false,if_pos q3,if_pos (Int.le_refl (R.size:Int)),hcr,Option.bind_some]
      exact ⟨(true,at0+R.size,r),fun v=>rfl,by simp,fun _=>by simp only;omega⟩
   · have:=hroom (by omega)
     simp only [if_neg h4]
     cases c with
     |true=>exact ⟨(true,at0+(t+4),true),fun v=>rfl,by simp,fun _=>by simp only;omega⟩
     |false=>
      obtain ⟨r,hr⟩:=hct (R.extract 0 (t+4).toNat) ⟨#[10]⟩ (by rw [ByteArray.size_extract];omega)
      have q3:(0:Int)≤t+4:=by omega
      have q4:t+4≤(R.size:Int):=by omega
      simp only [Bool.false_eq_true,if_false,if_pos q3,if_pos q4,hr,Option.bind_some]
      exact ⟨(true,at0+(t+4),r),fun v=>rfl,by simp,fun _=>by simp only;omega⟩
end
abbrev ML:=Value→Option (ByteArray × ByteArray × Int × Value × Bool)
def Passed (s:ByteArray)(at0:Int)(r:ML):Prop:=∃b at1 c1,(∀v,r v=some (b,s,at1,v,c1))∧at0≤at1∧at1≤(s.size:Int)∧b.size≤s.size
theorem Passed.le {s:ByteArray}{a b:Int}{r:ML}(h:Passed s b r)(hab:a≤b):Passed s a r:=by
 obtain ⟨x,y,z,h1,h2,h3⟩:=h
 exact ⟨x,y,z,h1,by omega,h3⟩
theorem Passed.ite {s:ByteArray}{a:Int}{P:Prop}[Decidable P]{f g:ML}(h1:P→Passed s a f)(h2:¬P→Passed s a g):Passed s a (fun v=>if P then f v else g v):=by
 by_cases h:P
 · obtain ⟨x,y,z,hn,hr⟩:=h1 h;exact ⟨x,y,z,fun v=>(if_pos h).trans (hn v),hr⟩
 · obtain ⟨x,y,z,hn,hr⟩:=h2 h;exact ⟨x,y,z,fun v=>(if_neg h).trans (hn v),hr⟩
theorem zO (s:ByteArray)(sg:List ByteArray)(hs:s.size≤1000000)(from0:Int)(hf:0≤from0):∀(d:Nat) (at0:Int) (c:Bool) (k:Nat),from0≤at0→at0≤s.size→(s.size:Int)-at0≤d→5*d+5<k→Passed s at0 (fun v=>au.l0 k from0 s at0 v sg c)
 |d,at0,c,0,_,_,_,h=>by omega
 |d,at0,c,k+1,h0,h1,hd,hk=>by
  simp only [au.l0]
  refine Passed.ite (fun hlt=> ?_) fun hge=> ?_
  · obtain ⟨d,rfl⟩:∃e,d=e+1:=⟨d-1,by omega⟩
    have ih:∀(at1:Int) (c1:Bool) (k:Nat),at0<at1→at1≤s.size→5*d+5<k→Passed s at0 (fun v=>au.l0 k from0 s at1 v sg c1):=fun at1 c1 k ha hb hk=>(zO s sg hs from0 hf d at1 c1 k (by omega) hb (by omega) hk).le (by omega)
    have hn1:=gJ s at0 sg c hs (by omega) h1 1 (by omega) (by omega)
    have hn2:=gJ s at0 sg c hs (by omega) h1 2 (by omega) (by omega)
    have w1:=wr (a:=at0+1) (by omega) (by omega)
    have w2:=wr (a:=at0+2) (by omega) (by omega)
    have w3:=wr (a:=at0+3) (by omega) (by omega)
    have j4:∀k b,5*d+6<k→(b=true→at0+3≤s.size)→Passed s at0 (fun v=>au.j4 k from0 b s at0 v sg c):=fun k b hk hb=>by
     obtain ⟨k,rfl⟩:∃m,k=m+1:=⟨k-1,by omega⟩
     obtain ⟨⟨r1,r2,r3⟩,hr,hra,hrb⟩:=Dq s at0 sg c hs (by omega) h1
     simp only [au.j4,w3,hr,Option.bind_some]
     refine Passed.ite (fun h=>ih _ _ _ (by omega) (hb h) (by omega)) fun _=>Passed.ite (fun h=> ?_) fun h=> ?_
     · have:=hrb h;exact ih _ _ _ this.1 this.2 (by omega)
     · obtain ⟨ha,hc⟩:=hra (by simpa using h)
       simp only at ha hc
       subst ha
       simp only [if_pos hf,if_pos h0,if_pos h1]
       exact ⟨_,_,_,fun v=>rfl,Int.le_refl _,h1,by rw [ByteArray.size_extract];omega⟩
    have past:∀i ch,ch≠0→nx s (at0+i)=ch→at0+i<s.size:=fun i ch hne h=>by
     by_cases hp:at0+i<s.size
     · exact hp
     · rw [jX s _ (by omega)] at h;exact absurd h.symm hne
    have j3:∀k x4 b,5*d+7<k→(b=true→at0+2≤s.size)→Passed s at0 (fun v=>au.j3 k from0 x4 b s at0 v sg c):=fun k x4 b hk hb=>by
     obtain ⟨k,rfl⟩:∃m,k=m+1:=⟨k-1,by omega⟩
     simp only [au.j3,w2,hn1,hn2,Option.bind_some]
     refine Passed.ite (fun h=>ih _ _ _ (by omega) (hb h) (by omega)) fun _=>Passed.ite (fun _=>Passed.ite (fun _=> ?_) fun _=> ?_) fun _=> ?_
     · refine j4 k _ (by omega) fun h=> ?_
       have:=past 2 10 (by decide) (by simpa using h)
       omega
     · exact j4 k _ (by omega) (by simp)
     · exact j4 k _ (by omega) (by simp)
    have j2:∀k x4 b,5*d+8<k→Passed s at0 (fun v=>au.j2 k from0 x4 b s at0 v sg c):=fun k x4 b hk=>by
     obtain ⟨k,rfl⟩:∃m,k=m+1:=⟨k-1,by omega⟩
     simp only [au.j2,w1,hn1,Option.bind_some]
     refine Passed.ite (fun _=>ih _ _ _ (by omega) (by omega) (by omega)) fun _=>Passed.ite (fun _=> ?_) fun _=> ?_
     · refine j3 k _ _ (by omega) fun h=> ?_
       have:=past 1 10 (by decide) (by simpa using h)
       omega
     · exact j3 k _ _ (by omega) (by simp)
    have j1:∀k x4 b,5*d+9<k→Passed s at0 (fun v=>au.j1 k from0 x4 b s at0 v sg c):=fun k x4 b hk=>by
     obtain ⟨k,rfl⟩:∃m,k=m+1:=⟨k-1,by omega⟩
     simp only [au.j1,w1]
     exact Passed.ite (fun _=>ih _ _ _ (by omega) (by omega) (by omega)) fun _=>Passed.ite (fun _=>j2 k _ _ (by omega)) fun _=>Passed.ite (fun _=>j2 k _ _ (by omega)) fun _=>j2 k _ _ (by omega)
    have h00:0≤at0:=by omega
    simp only [if_pos h00,w1]
    exact Passed.ite (fun _=>ih _ _ _ (by omega) (by omega) (by omega)) fun _=>Passed.ite (fun _=>j1 k _ _ (by omega)) fun _=>j1 k _ _ (by omega)
  · have q:from0≤(s.size:Int):=by omega
    simp only [if_pos hf,if_pos q]
    exact ⟨_,_,_,fun v=>rfl,Int.le_refl _,h1,by rw [ByteArray.size_extract];omega⟩
theorem qY (s:ByteArray)(at0:Int)(sg:List ByteArray)(c:Bool)(hs:s.size≤1000000)(h0:0≤at0)(h1:at0≤s.size)(k:Nat)(hk:5*s.size+5<k):Passed s at0 (fun v=>au.f k s at0 v sg c):=
 zO s sg hs at0 h0 s.size at0 c k (Int.le_refl _) h1 (by omega) hk
theorem Fh (s:ByteArray)(at0:Int)(sg:List ByteArray)(c:Bool)(hs:s.size≤1000000)(h0:0≤at0)(h1:at0≤s.size)(hl:sg.length≤1000000)(k:Nat)(hk:s.size+1<k)(hk2:sg.length<k)(j:Nat):
 Tried s at0 c (s.size-at0) (fun v=>(qy k sg j (s,at0,v,c))):=by
 match j with
 |0=>exact Ip s at0 sg c hs h0 h1 k hk
 |1=>exact Io s at0 sg c hs h0 h1 k (by omega)
 |2=>exact DX s at0 sg c hs h0 h1 k hk
 |3=>exact I4 s at0 sg c hs h0 h1 k (by omega)
 |4=>exact GR s at0 sg c hs h0 h1 k (by omega)
 |n+5=>exact G6 s at0 sg c hs h0 h1 k hl hk2
theorem mD (s:ByteArray)(at0:Int)(sg:List ByteArray)(c:Bool)(hs:s.size≤1000000)(h0:0≤at0)(h1:at0<s.size)(hl:sg.length≤1000000)(k:Nat)(hk:s.size+1<k)(hk2:sg.length<k):
 ∀(f j:Nat),∃n kd:Int,(∀v,tries k sg f j (s,at0,v,c)=some (n,kd,(s,at0,v,c)))∧1≤n∧at0+n≤s.size∧1≤kd
 |0,j=>⟨1,8,fun v=>rfl,by omega,by omega,by omega⟩
 |f+1,j=>by
  obtain ⟨m,hm,hm0,hm1⟩:=Fh s at0 sg c hs h0 (by omega) hl k hk hk2 j
  have hm:∀v,qy k sg j (s,at0,v,c)=some (m,s,at0,v,c):=hm
  by_cases hp:0<m
  · refine ⟨m,jR j,fun v=> ?_,by omega,by omega,?_⟩
    · rw [jo,hm v];simp only [Option.bind_some];rw [if_pos hp]
    · unfold jR;split<;>decide
  · obtain ⟨n,kd,h,hr⟩:=mD s at0 sg c hs h0 h1 hl k hk hk2 f (j+1)
    exact ⟨n,kd,fun v=>by rw [jo,hm v];simp only [Option.bind_some];rw [if_neg hp];exact h v,hr⟩
abbrev Tk:=Int × ByteArray × ByteArray × Int
def K0 (s:ByteArray)(sg:List ByteArray):Nat:=5*s.size+sg.length+100
def iR (kw sg:List ByteArray)(s:ByteArray)(at0:Int)(c:Bool):Tk × Int × Bool:=
 match au.f (K0 s sg) s at0 .nilIface sg c with
 |none=>((0,⟨#[]⟩,⟨#[]⟩,at0),at0,c)
 |some (b,_,at1,_,c1)=>
  if at1=s.size then ((0,b,⟨#[]⟩,at1),at1,c1) else
  match tries (K0 s sg) sg 6 0 (s,at1,.nilIface,c1) with
  |none=>((0,b,⟨#[]⟩,at1),at1,c1)
  |some (n,kd,_)=>((eU kw kd (s.extract at1.toNat (at1+n).toNat),b,s.extract at1.toNat (at1+n).toNat,at1),at1+n,false)
def jh (kw sg:List ByteArray)(s:ByteArray):Nat→Int→Bool→List Tk
 |0,_,_=>[]
 |f+1,at0,c=>let r:=iR kw sg s at0 c;if r.1.1=0 then [r.1] else r.1::jh kw sg s f r.2.1 r.2.2
def tkV (t:Tk):Value:= .agg #[.int .i64 t.1,.string t.2.1,.string t.2.2.1,.int .i64 t.2.2.2]
theorem Fz (kw sg:List ByteArray)(s:ByteArray)(at0:Int)(v:Value)(c:Bool)(g:Nat)(w0 w:World)(hI:bK w0 w g s at0 v sg c)(hB:Below w0.heap.size w0 w)(hG_:Glob w0)(hM:ny w v kw)
 (hs:s.size≤1000000) (h0:0≤at0) (h1:at0≤s.size) (hl:sg.length≤1000000):
 Calls Tryz.prog 66 #[.pointer (some ⟨g,0,none⟩)] w fun e w'=>e= .returned (tkV (iR kw sg s at0 c).1)∧bK w0 w' g s (iR kw sg s at0 c).2.1 v sg (iR kw sg s at0 c).2.2∧Below w0.heap.size w0 w'∧aG w w' g none:=by
 obtain ⟨b,at1,c1,hb,hb0,hb1,hbs⟩:=qY s at0 sg c hs h0 h1 (K0 s sg) (by unfold K0;omega)
 have hb:∀v,au.f (K0 s sg) s at0 v sg c=some (b,s,at1,v,c1):=hb
 by_cases he:at1=(s.size:Int)
 · have:=GI (K0 s sg) g s at0 v sg c b s at1 v c1 w0 w hI hB (hb v) hG_ he
   have hd:iR kw sg s at0 c=((0,b,⟨#[]⟩,at1),at1,c1):=by unfold iR;rw [hb .nilIface];simp only;rw [if_pos he]
   rw [hd];exact this
 · obtain ⟨n,kd,ht,hn,hn1,hk1⟩:=mD s at1 sg c1 hs (by omega) (by omega) hl (K0 s sg) (by unfold K0;omega) (by unfold K0;omega) 6 0
   have hd:iR kw sg s at0 c=((eU kw kd (s.extract at1.toNat (at1+n).toNat),b,s.extract at1.toNat (at1+n).toNat,at1),at1+n,false):=by
    unfold iR;rw [hb .nilIface];simp only;rw [if_neg he,ht .nilIface]
   have:=Jq (K0 s sg) g s at0 v sg c b s at1 v c1 w0 w hI hB (hb v) hG_ he n kd (s,at1,v,c1) (ht v) (by simp only;omega) (by simp only;omega) (by omega) (by simp only;omega) kw rfl hM
   rw [hd];exact this
theorem oq (kw sg:List ByteArray)(s:ByteArray)(at0:Int)(c:Bool)(hs:s.size≤1000000)(h0:0≤at0)(h1:at0≤s.size)(hl:sg.length≤1000000):
 (iR kw sg s at0 c).2.1≤s.size∧at0≤(iR kw sg s at0 c).2.1∧((iR kw sg s at0 c).1.1≠0→at0<(iR kw sg s at0 c).2.1)∧(iR kw sg s at0 c).1.2.1.size≤s.size∧(iR kw sg s at0 c).1.2.2.1.size≤s.size:=by
 obtain ⟨b,at1,c1,hb,hb0,hb1,hbs⟩:=qY s at0 sg c hs h0 h1 (K0 s sg) (by unfold K0;omega)
 have hb:∀v,au.f (K0 s sg) s at0 v sg c=some (b,s,at1,v,c1):=hb
 by_cases he:at1=(s.size:Int)
 · have hd:iR kw sg s at0 c=((0,b,⟨#[]⟩,at1),at1,c1):=by unfold iR;rw [hb .nilIface];simp only;rw [if_pos he]
   rw [hd];exact ⟨hb1,hb0,by simp,hbs,Nat.zero_le _⟩
 · obtain ⟨n,kd,ht,hn,hn1,hk1⟩:=mD s at1 sg c1 hs (by omega) (by omega) hl (K0 s sg) (by unfold K0;omega) (by unfold K0;omega) 6 0
   have hd:iR kw sg s at0 c=((eU kw kd (s.extract at1.toNat (at1+n).toNat),b,s.extract at1.toNat (at1+n).toNat,at1),at1+n,false):=by
    unfold iR;rw [hb .nilIface];simp only;rw [if_neg he,ht .nilIface]
   rw [hd];exact ⟨hn1,by simp only;omega,fun _=>by simp only;omega,hbs,by simp only;rw [ByteArray.size_extract];omega⟩
end Go.Proofs.YtolaiebjmhieiaaGreatDoor.OScan
end
section
namespace Go.Proofs
open Go.Shelf
def Tryz.lays157_ren:Go.Shelf.Ren:=⟨fun|157=>117|229=>157|199=>158|261=>187|311=>200|312=>201|n=>n,fun|9=>9|31=>23|3=>3|5=>5|4=>4|119=>210|0=>0|40=>212|152=>226|21=>21|154=>228|51=>78|141=>230|196=>237|193=>234|198=>240|49=>238|194=>235|201=>243|226=>249|46=>116|227=>250|n=>n,fun|0=>0|6=>2|n=>n⟩
theorem Tryz.lays157:Go.Proofs.Lays.n157 Tryz.prog Tryz.lays157_ren:={
 mixed:=by kernel_rfl
 f157:=Tryz.func117.trans (congrArg some (by kernel_rfl))
 f199:=Tryz.func158.trans (congrArg some (by kernel_rfl))
 f229:=Tryz.func157.trans (congrArg some (by kernel_rfl))
 f261:=Tryz.func187.trans (congrArg some (by kernel_rfl))
 f311:=Tryz.func200.trans (congrArg some (by kernel_rfl))
 f312:=Tryz.func201.trans (congrArg some (by kernel_rfl))
 t0:=Tryz.underlying0
 a0:=Tryz.isAgg0
 z0:=Tryz.sizeOf0
 v0:=Tryz.zeroValue0
 t3:=Tryz.underlying3
 a3:=Tryz.isAgg3
 z3:=Tryz.sizeOf3
 v3:=Tryz.zeroValue3
 t4:=Tryz.underlying4
 a4:=Tryz.isAgg4
 z4:=Tryz.sizeOf4
 v4:=Tryz.zeroValue4
 t5:=Tryz.underlying5
 a5:=Tryz.isAgg5
 z5:=Tryz.sizeOf5
 v5:=Tryz.zeroValue5
 t9:=Tryz.underlying9
 a9:=Tryz.isAgg9
 z9:=Tryz.sizeOf9
 v9:=Tryz.zeroValue9
 t21:=Tryz.underlying21
 a21:=Tryz.isAgg21
 z21:=Tryz.sizeOf21
 v21:=Tryz.zeroValue21
 t31:=Tryz.underlying23
 a31:=Tryz.isAgg23
 z31:=Tryz.sizeOf23
 v31:=Tryz.zeroValue23
 t40:=Tryz.underlying212
 a40:=Tryz.isAgg212
 z40:=Tryz.sizeOf212
 v40:=Tryz.zeroValue212
 t46:=Tryz.underlying116
 a46:=Tryz.isAgg116
 z46:=Tryz.sizeOf116
 v46:=Tryz.zeroValue116
 t49:=Tryz.underlying238
 a49:=Tryz.isAgg238
 z49:=Tryz.sizeOf238
 v49:=Tryz.zeroValue238
 t51:=Tryz.underlying78
 a51:=Tryz.isAgg78
 z51:=Tryz.sizeOf78
 v51:=Tryz.zeroValue78
 t119:=Tryz.underlying210
 a119:=Tryz.isAgg210
 z119:=Tryz.sizeOf210
 t141:=Tryz.underlying230
 a141:=Tryz.isAgg230
 z141:=Tryz.sizeOf230
 v141:=Tryz.zeroValue230
 t152:=Tryz.underlying226
 a152:=Tryz.isAgg226
 z152:=Tryz.sizeOf226
 v152:=Tryz.zeroValue226
 t154:=Tryz.underlying228
 a154:=Tryz.isAgg228
 z154:=Tryz.sizeOf228
 v154:=Tryz.zeroValue228
 t193:=Tryz.underlying234
 a193:=Tryz.isAgg234
 z193:=Tryz.sizeOf234
 v193:=Tryz.zeroValue234
 t194:=Tryz.underlying235
 a194:=Tryz.isAgg235
 z194:=Tryz.sizeOf235
 v194:=Tryz.zeroValue235
 t196:=Tryz.underlying237
 a196:=Tryz.isAgg237
 z196:=Tryz.sizeOf237
 v196:=Tryz.zeroValue237
 t198:=Tryz.underlying240
 a198:=Tryz.isAgg240
 z198:=Tryz.sizeOf240
 v198:=Tryz.zeroValue240
 t201:=Tryz.underlying243
 a201:=Tryz.isAgg243
 z201:=Tryz.sizeOf243
 v201:=Tryz.zeroValue243
 t226:=Tryz.underlying249
 a226:=Tryz.isAgg249
 z226:=Tryz.sizeOf249
 v226:=Tryz.zeroValue249
 t227:=Tryz.underlying250
 a227:=Tryz.isAgg250
 z227:=Tryz.sizeOf250
 v227:=Tryz.zeroValue250
 g0:=by kernel_rfl
 g6:=by kernel_rfl}
open Go.RowKit Go.Lib in
theorem Tryz.strings_Fields (s:ByteArray)(w:World)(hs:s.size<4294967281)(hascii:∀(j:Nat) b,s.data.toList[j]? =some b→b.toNat<128)(htab:Lib.TabIs Tryz.prog w "strings.asciiSpace" .u8 Lib.asciiSpaceTab):
 Calls Tryz.prog 117 #[.string s] w fun e w'=>
  e= .returned (.slice (some ⟨w.heap.size,0,none⟩) (Lib.fields s.data.toList).length (Lib.fields s.data.toList).length)∧w'=w.alloc (.cells ((Lib.fields s.data.toList).map fun l=>Value.string ⟨l.toArray⟩).toArray 9):=Any.strings_Fields Tryz.lays157 (by kernel_rfl) (by kernel_rfl) s w hs hascii htab
def Tryz.lays146_ren:Go.Shelf.Ren:=⟨fun|146=>99|221=>146|268=>183|138=>184|143=>185|195=>197|197=>168|218=>198|219=>199|260=>191|217=>132|225=>204|224=>203|267=>205|266=>170|314=>206|n=>n,fun|9=>9|31=>23|3=>3|4=>4|0=>0|105=>216|21=>21|5=>5|46=>116|119=>210|139=>247|138=>246|146=>251|51=>78|n=>n,fun|1=>1|3=>3|4=>4|n=>n⟩
theorem Tryz.lays146:Go.Proofs.Lays.n146 Tryz.prog Tryz.lays146_ren:={
 mixed:=by kernel_rfl
 f138:=Tryz.func184.trans (congrArg some (by kernel_rfl))
 f143:=Tryz.func185.trans (congrArg some (by kernel_rfl))
 f146:=Tryz.func99.trans (congrArg some (by kernel_rfl))
 f195:=Tryz.func197.trans (congrArg some (by kernel_rfl))
 f197:=Tryz.func168.trans (congrArg some (by kernel_rfl))
 f217:=Tryz.func132.trans (congrArg some (by kernel_rfl))
 f218:=Tryz.func198.trans (congrArg some (by kernel_rfl))
 f219:=Tryz.func199.trans (congrArg some (by kernel_rfl))
 f221:=Tryz.func146.trans (congrArg some (by kernel_rfl))
 f224:=Tryz.func203.trans (congrArg some (by kernel_rfl))
 f225:=Tryz.func204.trans (congrArg some (by kernel_rfl))
 f260:=Tryz.func191.trans (congrArg some (by kernel_rfl))
 f266:=Tryz.func170.trans (congrArg some (by kernel_rfl))
 f267:=Tryz.func205.trans (congrArg some (by kernel_rfl))
 f268:=Tryz.func183.trans (congrArg some (by kernel_rfl))
 f314:=Tryz.func206.trans (congrArg some (by kernel_rfl))
 t0:=Tryz.underlying0
 a0:=Tryz.isAgg0
 z0:=Tryz.sizeOf0
 v0:=Tryz.zeroValue0
 t3:=Tryz.underlying3
 a3:=Tryz.isAgg3
 z3:=Tryz.sizeOf3
 v3:=Tryz.zeroValue3
 t4:=Tryz.underlying4
 a4:=Tryz.isAgg4
 z4:=Tryz.sizeOf4
 v4:=Tryz.zeroValue4
 t5:=Tryz.underlying5
 a5:=Tryz.isAgg5
 z5:=Tryz.sizeOf5
 v5:=Tryz.zeroValue5
 t9:=Tryz.underlying9
 a9:=Tryz.isAgg9
 z9:=Tryz.sizeOf9
 v9:=Tryz.zeroValue9
 t21:=Tryz.underlying21
 a21:=Tryz.isAgg21
 z21:=Tryz.sizeOf21
 v21:=Tryz.zeroValue21
 t31:=Tryz.underlying23
 a31:=Tryz.isAgg23
 z31:=Tryz.sizeOf23
 v31:=Tryz.zeroValue23
 t46:=Tryz.underlying116
 a46:=Tryz.isAgg116
 z46:=Tryz.sizeOf116
 v46:=Tryz.zeroValue116
 t51:=Tryz.underlying78
 a51:=Tryz.isAgg78
 z51:=Tryz.sizeOf78
 v51:=Tryz.zeroValue78
 t105:=Tryz.underlying216
 a105:=Tryz.isAgg216
 z105:=Tryz.sizeOf216
 v105:=Tryz.zeroValue216
 t119:=Tryz.underlying210
 a119:=Tryz.isAgg210
 z119:=Tryz.sizeOf210
 t138:=Tryz.underlying246
 a138:=Tryz.isAgg246
 z138:=Tryz.sizeOf246
 v138:=Tryz.zeroValue246
 t139:=Tryz.underlying247
 a139:=Tryz.isAgg247
 z139:=Tryz.sizeOf247
 v139:=Tryz.zeroValue247
 t146:=Tryz.underlying251
 a146:=Tryz.isAgg251
 z146:=Tryz.sizeOf251
 v146:=Tryz.zeroValue251
 g1:=by kernel_rfl
 g3:=by kernel_rfl
 g4:=by kernel_rfl}
open Go.RowKit Go.Lib in
theorem Tryz.strings_Split (s sep:ByteArray)(m:Int)(w:World)(hs:s.size<4294967281)(hm:w.cell? ⟨1,0,none⟩=some (.int .i64 m))(h1:1≤sep.size):
 Calls Tryz.prog 99 #[.string s,.string sep] w fun e w'=>
  e= .returned (.slice (some ⟨w.heap.size,0,none⟩) (Lib.countB s sep+1) (Lib.countB s sep+1))∧w'=w.alloc (.cells ((Lib.splitB sep 0 (Lib.countB s sep) s).map Value.string).toArray 9):=Any.strings_Split Tryz.lays146 (by kernel_rfl) s sep m w hs hm h1
end Go.Proofs
end
section
namespace Go.Proofs.YtolaiebjmhieiaaGreatDoor.OScan
open Go.RowKit YtolaiebjmhieiaaGreatDoorW.PrintWords YtolaiebjmhieiaaGreatDoorW.PrintLast YtolaiebjmhieiaaGreatDoorW.PrintMore
def jg (w:World):Prop:=Glob w∧Lib.TabIs Tryz.prog w "strings.asciiSpace" .u8 Lib.asciiSpaceTab
theorem BG {w w':World}{name:String}{k:IntKind}{zs:List Int}(h:Lib.TabIs Tryz.prog w name k zs)(hb:Below w.heap.size w w'):Lib.TabIs Tryz.prog w' name k zs:=Lib.tabBelow_of_tabIs h w' hb
theorem jg.below {w0 w:World}(h:jg w0)(hb:Below w0.heap.size w0 w):jg w:=⟨h.1.below hb,BG h.2 hb⟩
def keyBytes:List UInt8:=[98,114,101,97,107,32,99,97,115,101,32,99,104,97,114,32,99,111,110,115,116,32,99,111,110,116,105,110,117,101,32,100,101,102,97,117,108,116,32,100,111,32,101,108,115,101,32,101,110,117,109,32,101,120,116,101,114,110,32,102,111,114,32,103,111,116,111,32,105,102,32,105,110,116,32,108,111,110,103,32,114,101,116,117,114,110,32,115,104,111,114,116,32,115,105,103,110,101,100,32,115,105,122,101,111,102,32,115,116,97,116,105,99,32,115,116,114,117,99,116,32,115,119,105,116,99,104,32,116,121,112,101,100,101,102,32,117,110,105,111,110,32,117,110,115,105,103,110,101,100,32,118,111,105,100,32,118,111,108,97,116,105,108,101,32,119,104,105,108,101]
def lF:List UInt8:=[46,46,46,32,60,60,61,32,62,62,61,32,60,60,32,62,62,32,60,61,32,62,61,32,61,61,32,33,61,32,38,38,32,124,124,32,43,43,32,45,45,32,43,61,32,45,61,32,42,61,32,47,61,32,37,61,32,38,61,32,124,61,32,94,61,32,45,62,32,43,32,45,32,42,32,47,32,37,32,38,32,124,32,94,32,33,32,126,32,60,32,62,32,61,32,63,32,58,32,59,32,44,32,46,32,40,32,41,32,91,32,93,32,123,32,125,32,35]
def kwL:List ByteArray:=(Lib.fields keyBytes).map fun l=>⟨l.toArray⟩
def sgL:List ByteArray:=(Lib.fields lF).map fun l=>⟨l.toArray⟩
theorem ascii_of {l:List UInt8}(h:l.all (fun b=>decide (b.toNat<128))=true):∀(j:Nat) b,l[j]? =some b→b.toNat<128:=fun j b hb=>by
 have:=List.all_eq_true.1 h b (List.mem_of_getElem? hb)
 simpa using this
theorem xB (l:List UInt8):(⟨l.toArray⟩:ByteArray).data.toList=l:=by simp
theorem xA (l:List UInt8):(⟨l.toArray⟩:ByteArray).size=l.length:=by simp [ByteArray.size]
theorem IB (w:World)(hG:jg w):Calls Tryz.prog 65 #[] w fun e w'=>e= .returned (.slice (some ⟨w.heap.size,0,none⟩) kwL.length kwL.length)∧w'=w.alloc (.cells (kwL.map Value.string).toArray 9):=by
 have H:=Tryz.strings_Fields ⟨keyBytes.toArray⟩ w (by rw [xA];decide) (by rw [xB];exact ascii_of (by decide)) hG.2
 have e1:(⟨keyBytes.toArray⟩:ByteArray).data.toList=keyBytes:=by simp
 rw [e1] at H
 have e2:(Lib.fields keyBytes).length=kwL.length:=by simp [kwL]
 have e3:((Lib.fields keyBytes).map fun l=>Value.string ⟨l.toArray⟩).toArray=(kwL.map Value.string).toArray:=by simp [kwL]
 rw [e2,e3] at H
 generalize kwL=kw at *
 go_enter Tryz.func65,Tryz.ntmps65
 go_wp2_with (go_at_call 117;refine Calls.mono (show Calls Tryz.prog 117 #[.string ⟨keyBytes.toArray⟩] w _ from H) ?_;rintro e w' ⟨rfl,rfl⟩)
 go_ret
 exact ⟨rfl,rfl⟩
theorem FH (w:World)(hG:jg w):Calls Tryz.prog 64 #[] w fun e w'=>e= .returned (.slice (some ⟨w.heap.size,0,none⟩) sgL.length sgL.length)∧w'=w.alloc (.cells (sgL.map Value.string).toArray 9):=by
 have H:=Tryz.strings_Fields ⟨lF.toArray⟩ w (by rw [xA];decide) (by rw [xB];exact ascii_of (by decide)) hG.2
 have e1:(⟨lF.toArray⟩:ByteArray).data.toList=lF:=by simp
 rw [e1] at H
 have e2:(Lib.fields lF).length=sgL.length:=by simp [sgL]
 have e3:((Lib.fields lF).map fun l=>Value.string ⟨l.toArray⟩).toArray=(sgL.map Value.string).toArray:=by simp [sgL]
 rw [e2,e3] at H
 generalize sgL=kw at *
 go_enter Tryz.func64,Tryz.ntmps64
 go_wp2_with (go_at_call 117;refine Calls.mono (show Calls Tryz.prog 117 #[.string ⟨lF.toArray⟩] w _ from H) ?_;rintro e w' ⟨rfl,rfl⟩)
 go_ret
 exact ⟨rfl,rfl⟩
end Go.Proofs.YtolaiebjmhieiaaGreatDoor.OScan
end
section
namespace Go.Proofs.YtolaiebjmhieiaaGreatDoor
open Go.ChangeMaps (setBlock)
open Go.RowKit YtolaiebjmhieiaaGreatDoorW.PrintWords YtolaiebjmhieiaaGreatDoorW.PrintLast YtolaiebjmhieiaaGreatDoorW.PrintMore
section
abbrev AL:=List (ByteArray × Value)
def eF:AL→ByteArray→Option Value
 |[],_=>none
 |p::l,t=>if t==p.1 then some p.2 else eF l t
def lD:AL→ByteArray→Value→AL
 |[],t,v=>[(t,v)]
 |p::l,t,v=>if t==p.1 then (t,v)::l else p::lD l t v
def uI (p:ByteArray × Value):Value × Value:=(.string p.1,p.2)
def gB (W:World)(b:Nat)(l:AL):Prop:=∃es clock,W.heap[b]? =some (.map es clock)∧es.toList.map (fun e=>(e.key,e.val))=l.map uI
theorem gB.lt {W:World}{b:Nat}{l:AL}(h:gB W b l):b<W.heap.size:=by obtain ⟨es,c,h,_⟩:=h;exact OScan.kD h
theorem gB.same {W W':World}{b:Nat}{l:AL}(h:gB W b l)(hb:W'.heap[b]? =W.heap[b]?):gB W' b l:=by obtain ⟨es,c,h,hl⟩:=h;exact ⟨es,c,hb.trans h,hl⟩
theorem Aw (t:ByteArray):∀(es:List MapEntry) (l:AL) (i:Nat),es.map (fun e=>(e.key,e.val))=l.map uI→
 (eF l t=none∧Instr.findNow .string (.string t) es i=some none∧lD l t=fun v=>l++[(t,v)])∨
 ∃(v:Value) (j:Nat) (e:MapEntry),eF l t=some v∧Instr.findNow .string (.string t) es i=some (some (i+j,v))∧es[j]? =some e∧(∃t',e.key= .string t'∧(t==t')=true)∧
  ∀u,(es.modify j fun e=>{e with key:= .string t,val:=u}).map (fun e=>(e.key,e.val))=(lD l t u).map uI:=by
 intro es
 induction es with
 |nil=>intro l i h;cases l with
  |nil=>exact .inl ⟨rfl,rfl,rfl⟩
  |cons=>simp at h
 |cons e es ih=>
  intro l i h
  cases l with
  |nil=>simp at h
  |cons a l=>
   simp only [List.map_cons,List.cons.injEq,Prod.mk.injEq,uI] at h
   obtain ⟨⟨h1,h2⟩,h3⟩:=h
   cases hta:(t==a.1)
   · rcases ih l (i+1) h3 with ⟨g1,g2,g3⟩|⟨v,j,e',g1,g2,g3,g4,g5⟩
     · refine .inl ⟨by simp only [eF,hta];exact g1,by simp only [Instr.findNow,h1,Instr.sameNow,hta];exact g2,?_⟩
       funext v;simp only [lD,hta,g3];rfl
     · refine .inr ⟨v,j+1,e',by simp only [eF,hta];exact g1,?_,by simpa using g3,g4,fun u=> ?_⟩
       · simp only [Instr.findNow,h1,Instr.sameNow,hta];rw [g2];congr 3;omega
       · simp only [List.modify_succ_cons,List.map_cons,lD,hta,Bool.false_eq_true,if_false,g5 u,uI,h1,h2]
   · refine .inr ⟨a.2,0,e,by simp [eF,hta],?_,rfl,⟨a.1,h1,hta⟩,fun u=> ?_⟩
     · simp only [Instr.findNow,h1,Instr.sameNow,hta,h2];rfl
     · simp only [List.modify_zero_cons,List.map_cons,lD,hta,if_true,uI,h3]
variable {W:World}{b:Nat}{l:AL}{mt e:TypeId}
theorem tZ (W:World)(em:Bool)(n:Nat)(t:ByteArray):(Instr.checkKey em (n+1) 9 (.string t)).run Tryz.prog W= .ok () W:=OScan.Dt W em n t
theorem gB.get (h:gB W b l)(ht:Tryz.prog.underlying mt=some (.map 9 e))(t:ByteArray)(z:Value)(hz:∀W,(zeroValue e).run Tryz.prog W= .ok z W):(Instr.lookup mt (.map (some b)) (.string t) false).run Tryz.prog W= .ok ((eF l t).getD z) W:=by
 obtain ⟨es,clock,hb,he⟩:=h
 have hck:=tZ W es.isEmpty 9999 t
 rcases Aw t es.toList l 0 he with ⟨g1,g2,_⟩|⟨v,j,e',g1,g2,_⟩<;>
  simp [Instr.lookup,run_underlying ht,MapKept.run_getObj_map hb,hck,Instr.findKey,run_underlying Tryz.underlying9,g1,g2,Result.andThen,hz]
theorem gB.qB (h:gB W b l)(ht:Tryz.prog.underlying mt=some (.map 9 e))(t:ByteArray)(z:Value)(hz:∀W,(zeroValue e).run Tryz.prog W= .ok z W):(Instr.lookup mt (.map (some b)) (.string t) true).run Tryz.prog W= .ok (.tuple #[(eF l t).getD z,.bool (eF l t).isSome]) W:=by
 obtain ⟨es,clock,hb,he⟩:=h
 have hck:=tZ W es.isEmpty 9999 t
 rcases Aw t es.toList l 0 he with ⟨g1,g2,_⟩|⟨v,j,e',g1,g2,_⟩<;>
  simp [Instr.lookup,run_underlying ht,MapKept.run_getObj_map hb,hck,Instr.findKey,run_underlying Tryz.underlying9,g1,g2,Result.andThen,hz]
structure gI (W W':World)(b:Nat):Prop where
 os:W'.os=W.os
 tape:W'.tape=W.tape
 output:W'.output=W.output
 size:W'.heap.size=W.heap.size
 block:∀i,i≠b→W'.heap[i]? =W.heap[i]?
theorem gI.refl (W:World)(b:Nat):gI W W b:=⟨rfl,rfl,rfl,rfl,fun _ _=>rfl⟩
theorem gI.trans {W1 W2 W3:World}{b:Nat}(h:gI W1 W2 b)(k:gI W2 W3 b):gI W1 W3 b:=⟨k.os.trans h.os,k.tape.trans h.tape,k.output.trans h.output,k.size.trans h.size,fun i hi=>(k.block i hi).trans (h.block i hi)⟩
theorem gI.below {W W1 W2:World}{b:Nat}(h:Below W.heap.size W W1)(k:gI W1 W2 b)(hb:W.heap.size≤b):Below W.heap.size W W2:=
 ⟨k.os.trans h.os,k.tape.trans h.tape,k.output.trans h.output,by have:=h.size;have:=k.size;omega,fun i hi=>(k.block i (by omega)).trans (h.block i hi)⟩
theorem gI.cell {W W':World}{b:Nat}(h:gI W W' b){a:Addr}(ha:a.block≠b):W'.cell? a=W.cell? a:=by simp only [World.cell?,h.block _ ha]
theorem oD (W:World)(b:Nat)(o:Obj):gI W (setBlock W b o) b:=⟨rfl,rfl,rfl,by simp [setBlock],fun i hi=>by simp [setBlock,Array.getElem?_setIfInBounds,Ne.symm hi]⟩
theorem gB.put (h:gB W b l)(ht:Tryz.prog.underlying mt=some (.map 9 e))(t:ByteArray)(v:Value):∃W',(Instr.mapUpdate mt (.map (some b)) (.string t) v).run Tryz.prog W= .ok () W'∧gB W' b (lD l t v)∧gI W W' b:=by
 have hlt:=h.lt
 obtain ⟨es,clock,hb,he⟩:=h
 have hck:=tZ W false 9999 t
 rcases Aw t es.toList l 0 he with ⟨g1,g2,g3⟩|⟨u,j,e',g1,g2,g3,⟨t',g4,g5⟩,g6⟩
 · refine ⟨setBlock W b (.map (es.push ⟨.string t,v,clock⟩) (clock+1)),?_,⟨es.push ⟨.string t,v,clock⟩,clock+1,by simp [setBlock,hlt],?_⟩,oD _ _ _⟩
   · simp [Instr.mapUpdate,run_underlying ht,MapKept.run_getObj_map hb,hck,Instr.findKey,run_underlying Tryz.underlying9,g2,MapKept.run_setObj_map _ hb,Result.andThen,setBlock]
   · rw [g3];simp [he,uI]
 · have hj:es[j]? =some e':=by simpa using g3
   have hk:(Instr.keyThatStays (.string t') (.string t)).run Tryz.prog W= .ok (.string t) W:=by
    have:t=t':=(MapKept.bytes_beq _ _).1 g5
    subst this
    simp [Instr.keyThatStays,Instr.sameBits,(MapKept.bytes_beq t t).2 rfl]
   refine ⟨setBlock W b (.map (es.modify j fun e=>{e with key:= .string t,val:=v}) clock),?_,⟨es.modify j fun e=>{e with key:= .string t,val:=v},clock,by simp [setBlock,hlt],?_⟩,oD _ _ _⟩
   · simp [Instr.mapUpdate,run_underlying ht,MapKept.run_getObj_map hb,hck,Instr.findKey,run_underlying Tryz.underlying9,g2,hj,g4,hk,MapKept.run_setObj_map _ hb,Result.andThen,setBlock]
   · rw [Array.toList_modify];exact g6 v
theorem zU:∀(l:AL) (t:ByteArray) (v:Value),(∀p∈l,(t==p.1)=false)→lD l t v=l++[(t,v)]
 |[],t,v,_=>rfl
 |p::l,t,v,h=>by
  have:=h p (List.mem_cons_self ..)
  simp only [lD,this,Bool.false_eq_true,if_false,zU l t v fun q hq=>h q (List.mem_cons_of_mem _ hq)];rfl
theorem gB.kw {W:World}{b:Nat}{kw:List ByteArray}(h:gB W b (kw.map fun t=>(t,Value.bool true))):OScan.ny W (.map (some b)) kw:=by
 obtain ⟨es,clock,hb,he⟩:=h
 exact ⟨b,es,clock,rfl,hb,by rw [he];simp [uI]⟩
end
end Go.Proofs.YtolaiebjmhieiaaGreatDoor
end
section
namespace Go.Proofs.YtolaiebjmhieiaaGreatDoor.OScan
open Go.RowKit YtolaiebjmhieiaaGreatDoorW.PrintWords YtolaiebjmhieiaaGreatDoorW.PrintLast YtolaiebjmhieiaaGreatDoorW.PrintMore
theorem Iy:(List.range kwL.length).all (fun k=>(kwL.take k).all (fun x=> !(kwL.getD k ⟨#[]⟩==x)))=true:=by decide
theorem LK:kwL.length=28:=by decide
theorem DL:sgL.length=47:=by decide
def kwP (k:Nat):AL:=(kwL.take k).map fun t=>(t,Value.bool true)
theorem JW (k:Nat)(h:k<kwL.length):lD (kwP k) (kwL.getD k ⟨#[]⟩) (.bool true)=kwP (k+1):=by
 rw [zU]
 · unfold kwP
   rw [List.take_succ_eq_append_getElem h,List.map_append]
   simp [List.getD_eq_getElem?_getD,List.getElem?_eq_getElem h]
 · intro p hp
   have h1:=List.all_eq_true.1 Iy k (List.mem_range.2 h)
   obtain ⟨x,hx,rfl⟩:=List.mem_map.1 hp
   have:=List.all_eq_true.1 h1 x hx
   simpa using this
theorem nD:(Tryz.prog.info? 95).map (fun i=>(i.zero,i.size,i.bytes))=some (some (.agg #[(.int .i64 0),(.string ⟨#[]⟩),(.string ⟨#[]⟩),(.int .i64 0)]),4,48):=by kernel_rfl
theorem NK (W:World)(b:Nat)(l:List ByteArray)(ty:TypeId)(hb:W.heap[b]? =some (.cells (l.map Value.string).toArray ty))(hl:l.length≤9223372036854775807):Kd.C Kd.string W (some ⟨b,0,none⟩) l.length l:=by
 refine ⟨rfl,hl,fun _=>⟨_,rfl,fun j p hp=>⟨[.string p],rfl,rfl,fun i u hu=> ?_⟩⟩⟩
 have hi:i=0:=by
  rcases i with _|i
  · rfl
  · simp at hu
 subst hi
 simp at hu
 subst hu
 rw [add_plain]
 refine (aC hb _).trans ?_
 simp [Kd.string,Kd.scalar,hp]
theorem alloc_old {W:World}{i:Nat}{o x:Obj}(h:W.heap[i]? =some x):(W.alloc o).heap[i]? =some x:=(Below.heap_alloc W o i (kD h)).trans h
theorem bT (W:World)(o:Obj):(W.alloc o).heap.size=W.heap.size+1:=by simp
theorem Ec (w:World)(o1 o2:Obj)(i:Nat)(hi:i<w.heap.size):((w.alloc o1).alloc o2).heap[i]? =w.heap[i]? :=(Below.heap_alloc _ _ _ (by rw [bT];omega)).trans (Below.heap_alloc _ _ _ hi)
theorem alloc_at {W:World}{o:Obj}{i:Nat}(h:i=W.heap.size):(W.alloc o).heap[i]? =some o:=by subst h;exact dh W o
theorem Mc (w:World)(o1 o2 o3 o4:Obj):((((w.alloc o1).alloc o2).alloc o3).alloc o4).heap[w.heap.size]? =some o1∧((((w.alloc o1).alloc o2).alloc o3).alloc o4).heap[w.heap.size+1]? =some o2∧
 ((((w.alloc o1).alloc o2).alloc o3).alloc o4).heap[w.heap.size+1+1]? =some o3∧((((w.alloc o1).alloc o2).alloc o3).alloc o4).heap[w.heap.size+1+1+1]? =some o4∧((((w.alloc o1).alloc o2).alloc o3).alloc o4).heap.size=w.heap.size+1+1+1+1:=by
 refine ⟨alloc_old (alloc_old (alloc_old (alloc_at rfl))),alloc_old (alloc_old (alloc_at ?_)),alloc_old (alloc_at ?_),alloc_at ?_,?_⟩<;>simp only [bT]
def kTk:Kd Tk:=Kd.pair (Kd.int .i64) (Kd.pair Kd.string (Kd.pair Kd.string (Kd.int .i64)))
theorem FM {W:World}{b i:Nat}{o:Obj}(h:i≠b):(Go.ChangeMaps.setBlock W b o).heap[i]? =W.heap[i]? :=(oD W b o).block i h
theorem Lm {W:World}{b:Nat}{o:Obj}(h:b<W.heap.size):(Go.ChangeMaps.setBlock W b o).heap[b]? =some o:=by simp [Go.ChangeMaps.setBlock,h]
theorem ny.at_ {w w':World}{v:Value}{kw:List ByteArray}(h:ny w v kw)(hb:Below w.heap.size w w'):ny w' v kw:=by
 obtain ⟨b,es,clock,rfl,hm,he⟩:=h
 exact ⟨b,es,clock,rfl,(hb.block b (kD hm)).trans hm,he⟩
theorem rX (w:World)(base:Nat)(ok:Nat→Prop)(x:Tk):kTk.M w base ok x [.int .i64 x.1,.string x.2.1,.string x.2.2.1,.int .i64 x.2.2.2]:=⟨[.int .i64 x.1],[.string x.2.1,.string x.2.2.1,.int .i64 x.2.2.2],rfl,rfl,⟨[.string x.2.1],[.string x.2.2.1,.int .i64 x.2.2.2],rfl,rfl,⟨[.string x.2.2.1],[.int .i64 x.2.2.2],rfl,rfl,rfl⟩⟩⟩
def eG (s:ByteArray):List Tk × Int:=
 if s.size>200000 then ([],2) else
 if (jh kwL sgL s (s.size+1) 0 true).length>40000 then ([],2) else (jh kwL sgL s (s.size+1) 0 true,0)
theorem FP (s:ByteArray)(w:World)(hs:200000<s.size)(hs2:s.size≤140737488355328):
 Calls Tryz.prog 40 #[.string s] w fun e w'=>∃v,e= .returned (.tuple #[v,.int .i64 (eG s).2])∧Kd.R kTk 95 w' w.heap.size (fun _=>True) v (eG s).1∧Below w.heap.size w w':=by
 have hr:eG s=([],2):=by unfold eG;rw [if_pos hs]
 rw [hr]
 have hd:decide ((200000:Int)<(s.size:Int))=true:=decide_eq_true (by omega)
 clear hr
 go_enter Tryz.func40,Tryz.ntmps40
 go_wp2
 go_ret2
 exact ⟨_,rfl,Kd.gQ _ _ _ _ _,Below.refl _ _⟩
theorem Hf (s:ByteArray)(w:World)(hG:jg w)(hs:s.size≤200000):
 Calls Tryz.prog 40 #[.string s] w fun e w'=>∃v,e= .returned (.tuple #[v,.int .i64 (eG s).2])∧Kd.R kTk 95 w' w.heap.size (fun _=>True) v (eG s).1∧Below w.heap.size w w':=by
 have hd:decide ((200000:Int)<(s.size:Int))=false:=decide_eq_false (by omega)
 have hsL:=DL
 have hkL:=LK
 have HG:=z0 hG
 clear hG
 have hmm:∀w,(Instr.makeMap 112 none).run Tryz.prog w= .ok (.map (some w.heap.size)) (w.alloc (.map #[] 0)):=fun _=>rfl
 go_enter Tryz.func40,Tryz.ntmps40
 go_wp2_with (first|(go_at_call 64;go_loud (refine (FH _ (HG.out.below (by exact aA (Below.refl _ _) _))).mono ?_;rintro e w1 ⟨rfl,rfl⟩))|(go_at_call 65;go_loud (refine (IB _ (HG.out.below (by repeat (first|exact Below.refl _ _|apply aA)))).mono ?_;rintro e w1 ⟨rfl,rfl⟩)))
 obtain ⟨W4,hW4⟩:∃W4,(((w.alloc (Obj.map #[] 0)).alloc (Obj.cells (List.map Value.string sgL).toArray 9)).alloc (Obj.cells #[Value.string s,Value.int IntKind.i64 0,Value.map (some w.heap.size),Value.slice (some {block:=w.heap.size+1,off:=0}) 47 47,Value.bool true] 125)).alloc (Obj.cells (List.map Value.string kwL).toArray 9)=W4:=⟨_,rfl⟩
 rw [hW4]
 have h5:=Mc w (Obj.map #[] 0) (Obj.cells (List.map Value.string sgL).toArray 9) (Obj.cells #[Value.string s,Value.int IntKind.i64 0,Value.map (some w.heap.size),Value.slice (some {block:=w.heap.size+1,off:=0}) 47 47,Value.bool true] 125) (Obj.cells (List.map Value.string kwL).toArray 9)
 rw [hW4] at h5
 obtain ⟨hHb,hHs,hHg,hHk,hS4'⟩:=h5
 have hB4:ah (Below w.heap.size w W4):=⟨by rw [←hW4];repeat (first|exact Below.refl _ _|apply aA)⟩
 have hS4:ah (W4.heap.size=w.heap.size+1+1+1+1):=⟨hS4'⟩
 clear hS4'
 have hM0:ah (gB W4 w.heap.size (kwP 0)):=⟨⟨_,_,hHb,rfl⟩⟩
 have hbs:w.heap.size<w.heap.size+1:=by omega
 have hsg:w.heap.size+1<w.heap.size+1+1:=by omega
 have hgk:w.heap.size+1+1<w.heap.size+1+1+1:=by omega
 have hWb:ah (w.heap.size≤w.heap.size):=⟨Nat.le_refl _⟩
 have HW0:ah (w.heap.size=w.heap.size):=⟨rfl⟩
 obtain ⟨b,hb⟩:∃b,ah (w.heap.size=b):=⟨_,⟨rfl⟩⟩
 have hW4':=hW4
 clear hW4 hHb
 have hW4'':=z0 hW4'
 clear hW4'
 go_loopw [19] (fun i wr=>∃k:Nat,ah (k≤28)∧i= .int .i64 k∧ah (gB wr w.heap.size (kwP k))∧ah (gI W4 wr w.heap.size)) (fun i _=>28-(intOf i).toNat)
 case atStart=>exact ⟨0,⟨by omega⟩,rfl,hM0,⟨gI.refl _ _⟩⟩
 case round=>
  obtain ⟨k,hk,rfl,hM,hO⟩:=hrel
  have hk':=hk.out
  have hcm:wr.cell? ⟨w.heap.size+1+1,2,none⟩=some (.map (some w.heap.size)):=(hO.out.cell (a:=⟨w.heap.size+1+1,2,none⟩) (by show w.heap.size+1+1≠w.heap.size;omega)).trans ((aC hHg 2).trans rfl)
  by_cases hlt:k<28
  · have hkc:wr.cell? ⟨w.heap.size+1+1+1,k,none⟩=some (.string (kwL.getD k ⟨#[]⟩)):=by
     refine (hO.out.cell (a:=⟨w.heap.size+1+1+1,k,none⟩) (by show w.heap.size+1+1+1≠w.heap.size;omega)).trans ((aC hHk k).trans ?_)
     simp [List.getD_eq_getElem?_getD,List.getElem?_eq_getElem (show k<kwL.length by omega)]
    obtain ⟨wN,hrun,hMN,hON⟩:=hM.out.put (mt:=112) (e:=4) Tryz.underlying112 (kwL.getD k ⟨#[]⟩) (.bool true)
    rw [JW k (by omega)] at hMN
    have HMN:=z0 hMN
    have HON:=z0 (hO.out.trans hON)
    clear hMN hON
    generalize kwL.getD k ⟨#[]⟩=key at hkc hrun
    have hltI:decide ((k:Int)<28)=true:=decide_eq_true (by omega)
    go_wp2
    go_roundw
    case rel=>exact ⟨k+1,⟨by omega⟩,by go_num,HMN,HON⟩
    case measure=>simp [intOf];omega
  · have hltI:decide ((k:Int)<28)=false:=decide_eq_false (by omega)
    go_wp2
    obtain rfl:k=28:=by omega
    have hM1:=hM.out
    have hP:kwP 28=kwL.map fun t=>(t,Value.bool true):=by unfold kwP;rw [List.take_of_length_le (by omega)]
    rw [hP] at hM1
    have hO1:=hO.out
    obtain ⟨es,clock,hes,hel⟩:=hM1
    obtain ⟨w0,hw0⟩:∃w0,ah (Go.ChangeMaps.setBlock ((w.alloc (Obj.map #[] 0)).alloc (Obj.cells (List.map Value.string sgL).toArray 9)) w.heap.size (.map es clock)=w0):=⟨_,⟨rfl⟩⟩
    have hsz0':w0.heap.size=w.heap.size+1+1:=by rw [←hw0.out];simp [Go.ChangeMaps.setBlock]
    have hsz0:ah (w0.heap.size=w.heap.size+1+1):=⟨hsz0'⟩
    have hb0:w0.heap[w.heap.size]? =some (.map es clock):=by rw [←hw0.out];exact Lm (by simp;omega)
    have hother:∀i,i<w.heap.size+1+1→i≠w.heap.size→w0.heap[i]? =W4.heap[i]? :=by
     intro i hi hne
     rw [←hw0.out,FM hne,←hW4''.out]
     exact (Ec _ _ _ i (by rw [bT,bT];exact hi)).symm
    have hBs:ah (Below w0.heap.size w0 wr):=⟨by
     refine ⟨?_,?_,?_,?_,?_⟩
     · rw [hO1.os,←hw0.out,←hW4''.out];rfl
     · rw [hO1.tape,←hw0.out,←hW4''.out];rfl
     · rw [hO1.output,←hw0.out,←hW4''.out];rfl
     · rw [hO1.size,hS4.out,hsz0'];omega
     · intro i hi
       rw [hsz0'] at hi
       by_cases hne:i=w.heap.size
       · subst hne;rw [hes,hb0]
       · rw [hO1.block i hne,hother i hi hne]⟩
    have hww:ah (w.heap.size≤w0.heap.size):=⟨by rw [hsz0'];omega⟩
    have hB0:Below w.heap.size w w0:=by
     rw [←hw0.out]
     exact (oD _ _ _).below (by repeat (first|exact Below.refl _ _|apply aA)) (Nat.le_refl _)
    have hB0':=z0 hB0
    have hG0:ah (Glob w0):=⟨HG.out.1.below hB0⟩
    have hKw:ah (ny w0 (.map (some w.heap.size)) kwL):=⟨gB.kw ⟨es,clock,hb0,hel⟩⟩
    have hI0:ah (bK w0 wr (w.heap.size+1+1) s 0 (.map (some w.heap.size)) sgL true):=⟨by
     refine ⟨some ⟨w.heap.size+1,0,none⟩,47,?_,by rw [hsz0'];exact Nat.le_refl _,?_⟩
     · rw [hO1.block _ (by omega),hHg,hsL]
     · refine NK w0 _ _ 9 ?_ (by omega)
       rw [hother _ (by omega) (by omega),hHs]⟩
    clear hO1 hes hel hw0 hsz0' hb0 hother hB0 hHs hHg hHk hM hO hB4 hM0 hcm hmm
    go_loopg [7] (s.size+1) (fun kq v7 w'=>∃(l:List Tk) (at0:Int) (c:Bool),ah (jh kwL sgL s (s.size+1) 0 true=l++jh kwL sgL s kq at0 c)∧ah (0≤at0∧at0≤s.size∧(s.size:Int)-at0<kq)∧ah (l.length≤40000)∧ah (Kd.R kTk 95 w' w0.heap.size (fun k=>k≠w.heap.size+1+1) v7 l)∧ah (bK w0 w' (w.heap.size+1+1) s at0 (.map (some w.heap.size)) sgL c)∧ah (Below w0.heap.size w0 w'))
    case atStart=>exact ⟨[],0,true,⟨rfl⟩,⟨by omega⟩,⟨by simp⟩,⟨Kd.gQ _ _ _ _ _⟩,hI0,hBs⟩
    case round=>
     clear hI0 hBs
     obtain ⟨l,at0,c,hT,hat,hl,hR,hI,hB⟩:=hrel
     cases gk with
     |zero=>have:=hat.out;omega
     |succ k1=>
      have H66:=Fz kwL sgL s at0 (.map (some w.heap.size)) c (w.heap.size+1+1) w0 wr hI.out hB.out hG0.out (hKw.out.at_ hB.out) (by omega) hat.out.1 hat.out.2.1 (by omega)
      have hpl:=oq kwL sgL s at0 c (by omega) hat.out.1 hat.out.2.1 (by omega)
      have hT1:jh kwL sgL s (k1+1) at0 c=if (iR kwL sgL s at0 c).1.1=0 then [(iR kwL sgL s at0 c).1] else (iR kwL sgL s at0 c).1::jh kwL sgL s k1 (iR kwL sgL s at0 c).2.1 (iR kwL sgL s at0 c).2.2:=rfl
      have hT2:=hT.out
      rw [hT1] at hT2
      clear hT hT1
      generalize iR kwL sgL s at0 c=r at *
      obtain ⟨⟨kd,bf,tx,a1⟩,at2,c2⟩:=r
      simp only [tkV] at H66 hpl hT2
      have HT:=z0 hT2
      have HP:=z0 hpl
      clear hT2 hpl
      have hgl:w.heap.size+1+1<wr.heap.size:=hI.out.lt
      obtain ⟨bl,hbl⟩:∃bl,ah (decide ((40000:Int)<((l++[(kd,bf,tx,a1)]).length:Int))=bl):=⟨_,⟨rfl⟩⟩
      obtain ⟨bk,hbk⟩:∃bk,(kd==0)=bk:=⟨_,rfl⟩
      cases bl<;>cases bk
      all_goals go_wp2_with (first|(go_at_call 66;go_loud (refine H66.mono ?_;rintro e w5 ⟨rfl,hi5,hb5,hk5⟩;have HI5:=z0 hi5;have HB5:=z0 hb5;have HR5:=z0 (Kd.Ee hR.out hk5 (fun k hk=>hk));clear hi5 hb5 hk5))|(at_builtin;go_loud (refine Kd.fH kTk (w0:=w0) w0.heap.size rfl (.tmp 31) (.tmp 33) 52 95 (.agg #[(.int .i64 0),(.string ⟨#[]⟩),(.string ⟨#[]⟩),(.int .i64 0)]) 48 rfl Tryz.underlying52 nD rfl (by decide) (by omega) u7 l (kd,bf,tx,a1) [.int .i64 kd,.string bf,.string tx,.int .i64 a1] (fun k=>k≠w.heap.size+1+1) (fun _=>False) rfl (by rw [bT];rfl) (rX _ _ _ (kd,bf,tx,a1)) (fun _ hk=>hk.elim) ?aF ?aO ?aB ?aS ?aL ?_;(case aF=>intro k hk;have hh:=HI5.out.lt;rw [bT] at hk;omega);(case aO=>exact Kd.dP HR5.out _);(case aB=>exact aA HB5.out _);(case aS=>exact aQ (aA HB5.out _));(case aL=>rw [show (48:Nat)=48 from rfl];have:=hl.out;omega);intro v1 w6 ho hb6 hg6 _;have hT8:=(hg6.block w5.heap.size (by rw [bT];omega) (fun he=>absurd ((Kd.iJ HR5.out).1 _ he.symm).2.2.1 (Nat.lt_irrefl _))).trans (dh w5 _);have c8:=(aC hT8 0).trans rfl;clear hT8;have HI6:=z0 ((HI5.out.alloc _).grown hg6 (fun he=>HR5.out.1 _ he.symm rfl));obtain ⟨ad,cp,rfl⟩:=Kd.Jd ho (by simp);obtain ⟨ln,hln⟩:∃ln,ln=(l++[(kd,bf,tx,a1)]).length:=⟨_,rfl⟩;rw [←hln];rw [←hln] at ho;have hdl:=hbl.out;rw [←hln] at hdl;have Hln:=z0 hln;clear hln;have HR6:=z0 ho;have HB6:=z0 hb6;clear ho hb6 hg6)))
      · go_roundg k1
        case measure=>omega
        case rel=>
         have h1:=HT.out
         have hk0:kd≠0:=by simpa using hbk
         rw [if_neg hk0] at h1
         have h2:=HP.out
         have h3:=h2.2.2.1 hk0
         have h4:=hat.out
         have h5:¬(40000:Int)<((l++[(kd,bf,tx,a1)]).length:Int):=of_decide_eq_false hbl.out
         exact ⟨l++[(kd,bf,tx,a1)],at2,c2,⟨by rw [h1];simp⟩,⟨by omega⟩,⟨by omega⟩,⟨HR6.out⟩,HI6,HB6⟩
      · go_ret2
        have h1:=HT.out
        have hk0:kd=0:=by simpa using hbk
        rw [if_pos hk0] at h1
        have h5:¬(40000:Int)<((l++[(kd,bf,tx,a1)]).length:Int):=of_decide_eq_false hbl.out
        have hr:eG s=(l++[(kd,bf,tx,a1)],0):=by unfold eG;rw [if_neg (by omega),h1,if_neg (by omega)]
        rw [hr]
        exact ⟨_,rfl,Kd.fZ (Kd.fM HR6.out fun _ _=>trivial) hww.out,mX hB0'.out hww.out HB6.out⟩
      all_goals
       go_ret2
       have h1:=HT.out
       have h5:(40000:Int)<((l++[(kd,bf,tx,a1)]).length:Int):=of_decide_eq_true hbl.out
       have h6:(l++[(kd,bf,tx,a1)]).length≤(jh kwL sgL s (s.size+1) 0 true).length:=by
        rw [h1];split<;>simp
       have hr:eG s=([],2):=by unfold eG;rw [if_neg (by omega),if_pos (by omega)]
       rw [hr]
       exact ⟨_,rfl,Kd.gQ _ _ _ _ _,mX hB0'.out hww.out HB6.out⟩
def kF (add:Int)(a:Int):Int:=wrap64 (wrap64 (a-1)+add)
def mZ (a:Int):Int:=wrap64 (wrap64 (a-1)+1)
def jK (rec_:ByteArray→Int→Option (List Tk))(s:ByteArray)(add:Int):List Tk→List Tk→Option (List Tk)
 |[],out=>some out
 |t::l,out=>
  if t.1=7 then
   if 0≤mZ t.2.2.2∧mZ t.2.2.2≤s.size then (rec_ (s.extract (mZ t.2.2.2).toNat s.size) (wrap64 (add+mZ t.2.2.2))).bind fun r=>if r.length≤1000000 then some ((out++[(6,t.2.1,⟨#[35]⟩,kF add t.2.2.2)])++r) else none else none
  else jK rec_ s add l (out++[(t.1,t.2.1,t.2.2.1,kF add t.2.2.2)])
def jk:Nat→ByteArray→Int→Option (List Tk)
 |0,_,_=>none
 |k+1,s,add=>
  let r:=eG (⟨#[40]⟩++s)
  if r.2=0 then (if 2≤r.1.length∧r.1.length≤1000000 then jK (jk k) s add ((r.1.take (r.1.length-1)).drop 1) [] else none) else some []
theorem uz {w:World}{A:Option Addr}{n:Nat}{xs:List Tk}(h:Kd.C kTk w A n xs)(i:Nat)(h1:i<n)(x:Tk)(hx:xs[i]? =some x):∃ad,A=some ad∧w.cell? (ad.add (i*4))=some (.int .i64 x.1)∧w.cell? ⟨(ad.add (i*4)).block,(ad.add (i*4)).off+1,none⟩=some (.string x.2.1)∧w.cell? ⟨(ad.add (i*4)).block,(ad.add (i*4)).off+2,none⟩=some (.string x.2.2.1)∧w.cell? ⟨(ad.add (i*4)).block,(ad.add (i*4)).off+3,none⟩=some (.int .i64 x.2.2.2):=by
 obtain ⟨ad,c,e,_,hK,hc0⟩:=Kd.pJ h x i (by omega) (by omega)
 have hxi:xs.getD (i:Int).toNat x=x:=by simp [List.getD_eq_getElem?_getD,hx]
 rw [hxi] at hK
 have hc:∀j u,c[j]? =some u→w.cell? (ad.add (i*4+j))=some u:=hc0
 obtain ⟨_,_,rfl,rfl,⟨_,_,rfl,rfl,⟨_,_,rfl,rfl,rfl⟩⟩⟩:=hK
 exact ⟨ad,e,hc 0 _ rfl,by rw [←gZ _ _ 1 (by omega)];exact hc 1 _ rfl,by rw [←gZ _ _ 2 (by omega)];exact hc 2 _ rfl,by rw [←gZ _ _ 3 (by omega)];exact hc 3 _ rfl⟩
theorem pV (s:ByteArray)(w:World)(hG:jg w)(hs:s.size≤140737488355328):
 Calls Tryz.prog 40 #[.string s] w fun e w'=>∃v,e= .returned (.tuple #[v,.int .i64 (eG s).2])∧Kd.R kTk 95 w' w.heap.size (fun _=>True) v (eG s).1∧Below w.heap.size w w':=by
 by_cases hl:s.size≤200000
 · exact Hf s w hG hl
 · exact FP s w (by omega) hs
theorem JX:∃i,Tryz.prog.info? 95=some i∧i.size=4:=by
 obtain ⟨i,hi,h⟩:=Option.map_eq_some_iff.1 nD
 simp only [Prod.mk.injEq] at h
 exact ⟨i,hi,h.2.1⟩
theorem Fa (k:Nat):∀(s:ByteArray) (add:Int) (r:List Tk) (w:World),jg w→s.size≤140737488355000→jk k s add=some r→
 Calls Tryz.prog 126 #[.string s,.int .i64 add] w fun e w'=>∃v,e= .returned v∧Kd.R kTk 95 w' w.heap.size (fun _=>True) v r∧Below w.heap.size w w':=by
 induction k with
 |zero=>intro s add r w hG hs h;simp [jk] at h
 |succ k ih=>
  intro s add r w hG hs h
  have hsz:(⟨#[40]⟩++s:ByteArray).size=s.size+1:=by rw [ByteArray.size_append];have:(⟨#[40]⟩:ByteArray).size=1:=rfl;omega
  have H40:=pV (⟨#[40]⟩++s) w hG (by omega)
  simp only [jk] at h
  generalize eG (⟨#[40]⟩++s)=sr at *
  obtain ⟨ys,er⟩:=sr
  simp only at H40 h
  have HG:=z0 hG
  clear hG
  have q1:1+s.size≤9223372036854775807:=by omega
  have q2:(9223372036854775807<1+s.size)=False:=eq_false (by omega)
  by_cases he:er=0
  · rw [if_pos he] at h
    by_cases hl:2≤ys.length∧ys.length≤1000000
    · rw [if_pos hl] at h
      have hE:(er !=0)=false:=by simp [he]
      have hE2:(er==0)=true:=by simp [he]
      have HR0:=z0 h
      clear h he
      have hzl:((ys.take (ys.length-1)).drop 1).length=ys.length-1-1:=by rw [List.length_drop,List.length_take];omega
      obtain ⟨zs,hzs⟩:∃zs,ah ((ys.take (ys.length-1)).drop 1=zs):=⟨_,⟨rfl⟩⟩
      rw [hzs.out] at hzl HR0
      have HZ:=z0 hzl
      clear hzl
      have hn1:wrap64 ((ys.length:Int)-1)=(ys.length:Int)-1:=wr (by omega) (by omega)
      have HW1:ah (∀j:Nat,j≤1000000→wrap64 ((j:Int)+1)=(j:Int)+1):=⟨fun j hj=>wr (by omega) (by omega)⟩
      have hn2:IntKind.i64.wrap ((ys.length:Int)-1)=(ys.length:Int)-1:=IntWalk.i64_in _ (by omega)
      go_enter Tryz.func126,Tryz.ntmps126
      go_wp2_with (go_at_call 40;go_loud (refine H40.mono ?_;rintro e w8 ⟨v,rfl,hR,hb⟩;obtain ⟨Ao,co,rfl⟩:=Kd.bF hR;have HR:=z0 hR;have HB8:=z0 hb;clear hR hb;obtain ⟨i0,hi0,hi1⟩:=JX;have hroom:=(Kd.aZ HR.out).2.1;have hcut:=Kt (P:=Tryz.prog) 52 95 .i64 .i64 Tryz.underlying52 hi0 4 hi1 Ao ys.length co 1 ((ys.length:Int)-1) (by omega) (by omega) (by omega) hroom;have hmid:=Kd.NH (lo:=1) (hi:=ys.length-1) (c:=co) (Kd.aZ HR.out).2.2 (by omega) (by omega) hroom;rw [hzs.out] at hmid;have e1:((ys.length:Int)-1).toNat-(1:Int).toNat=zs.length:=(by first|(rw [HZ.out];done)|(have h9:=HZ.out;omega));rw [e1] at hcut;obtain ⟨A1,hA1⟩:∃A1,A1=(if co=(1:Int).toNat then Ao else Ao.map (·.add ((1:Int).toNat*4))):=⟨_,rfl⟩;rw [←hA1] at hcut;have HC:=z0 (show Kd.C kTk w8 A1 zs.length zs from by rw [hA1];exact hmid);obtain ⟨c1,hc1⟩:∃c1,c1=co-(1:Int).toNat:=⟨_,rfl⟩;rw [←hc1] at hcut;clear hA1 hc1 hmid e1 hroom hi0 hi1))
      have HWW:=z0 HB8.out.size
      have HG8:=z0 (HG.out.below HB8.out)
      clear hcut HR H40
      go_loopg [7,26] zs.length (fun kq v7 v26 w'=>∃(i:Nat) (out:List Tk),v26= .int .i64 i∧ah (kq+i=zs.length)∧ah (jK (jk k) s add (zs.drop i) out=some r)∧ah (out.length=i)∧ah (Kd.R kTk 95 w' w8.heap.size (fun _=>True) v7 out)∧ah (Below w8.heap.size w8 w'))
      case atStart=>exact ⟨0,[],rfl,⟨rfl⟩,HR0,⟨rfl⟩,⟨Kd.gQ _ _ _ _ _⟩,⟨Below.refl _ _⟩⟩
      case round=>
       clear HR0
       obtain ⟨i,out,rfl,hki,HW,hol,hR,hB⟩:=hrel
       have hki':=hki.out
       cases gk with
       |zero=>
        have hlt:decide ((i:Int)<(zs.length:Int))=false:=decide_eq_false (by omega)
        have hn:zs.drop i=[]:=List.drop_eq_nil_of_le (by omega)
        have H:=HW.out
        rw [hn] at H
        simp only [jK] at H
        obtain rfl:=Option.some.inj H
        clear H hn
        go_wp2
        go_ret
        exact ⟨_,rfl,Kd.fZ hR.out HWW.out,mX HB8.out HWW.out hB.out⟩
       |succ g1=>
        have hlt:decide ((i:Int)<(zs.length:Int))=true:=decide_eq_true (by omega)
        have hiz:i<zs.length:=by omega
        obtain ⟨x,hx⟩:∃x,zs[i]? =some x:=⟨_,List.getElem?_eq_getElem hiz⟩
        have hdr:zs.drop i=x::zs.drop (i+1):=by
         rw [List.drop_eq_getElem_cons hiz]
         rw [List.getElem?_eq_getElem hiz] at hx
         rw [Option.some.inj hx]
        have H:=HW.out
        rw [hdr] at H
        obtain ⟨ad,rfl,hx0,hx1,hx2,hx3⟩:=uz HC.out i hiz x hx
        replace hx0:=(hB.out.cell (World.block_lt_of_cell? w8 _ hx0)).trans hx0
        replace hx1:=(hB.out.cell (World.block_lt_of_cell? w8 _ hx1)).trans hx1
        replace hx2:=(hB.out.cell (World.block_lt_of_cell? w8 _ hx2)).trans hx2
        replace hx3:=(hB.out.cell (World.block_lt_of_cell? w8 _ hx3)).trans hx3
        clear hx hdr
        obtain ⟨kd,bf,tx,a1⟩:=x
        simp only at hx0 hx1 hx2 hx3
        simp only [jK] at H
        have hii:(0:Int)≤(i:Int):=by omega
        by_cases hk:kd=7
        · rw [if_pos hk] at H
          by_cases hf:0≤mZ a1∧mZ a1≤s.size
          · rw [if_pos hf] at H
            obtain ⟨r2,hr2,H⟩:=Option.bind_eq_some_iff.1 H
            by_cases hl2:r2.length≤1000000
            · rw [if_pos hl2] at H
              obtain rfl:=Option.some.inj H
              have hsz2:(s.extract (mZ a1).toNat s.size).size≤140737488355000:=by rw [ByteArray.size_extract];omega
              have hIH:=z0 (fun w' hG'=>ih _ _ r2 w' hG' hsz2 hr2)
              have hkb:(kd==7)=true:=by simpa using hk
              have p1:(0≤wrap64 (wrap64 (a1-1)+1))=True:=eq_true hf.1
              have p2:(wrap64 (wrap64 (a1-1)+1)≤(s.size:Int))=True:=eq_true hf.2
              have p3:decide (0≤wrap64 (wrap64 (a1-1)+1))=true:=decide_eq_true hf.1
              have p4:decide (wrap64 (wrap64 (a1-1)+1)≤(s.size:Int))=true:=decide_eq_true hf.2
              have HL2:=z0 hl2
              clear H hk hf hr2 hl2
              go_wp2_with (first|(at_builtin;go_loud (refine Kd.fH kTk (w0:=w8) w8.heap.size rfl (.tmp 48) (.tmp 50) 52 95 (.agg #[(.int .i64 0),(.string ⟨#[]⟩),(.string ⟨#[]⟩),(.int .i64 0)]) 48 rfl Tryz.underlying52 nD rfl (by decide) (by omega) u7 out (6,bf,⟨#[35]⟩,kF add a1) [.int .i64 6,.string bf,.string ⟨#[35]⟩,.int .i64 (kF add a1)] (fun _=>True) (fun _=>False) rfl (by rw [bT];rfl) (rX _ _ _ (6,bf,⟨#[35]⟩,kF add a1)) (fun _ hk=>hk.elim) (fun _ _=>trivial) ?aO ?aB ?aS ?aL ?_;(case aO=>exact Kd.dP hR.out _);(case aB=>exact aA hB.out _);(case aS=>exact aQ (aA hB.out _));(case aL=>have:=hol.out;have h9:=HZ.out;omega);intro v1 w6 ho hb6 hg6 _;have HR6:=z0 ho;have HB6:=z0 hb6;clear ho hb6 hg6))|(go_at_call 126;go_loud (refine (hIH.out _ (HG8.out.below HB6.out)).mono ?_;rintro e w9 ⟨v9,rfl,hr9,hb9⟩;obtain ⟨A9,c9,rfl⟩:=Kd.bF hr9;have HR9:=z0 hr9;have HR7:=z0 (Kd.dn HR6.out hb9);have HB9:=z0 (ak HB6.out hb9);clear hr9 hb9))|(at_builtin;go_loud (refine Kd.yt kTk (w0:=w8) w8.heap.size rfl (.tmp 53) (.tmp 60) 52 95 (.agg #[(.int .i64 0),(.string ⟨#[]⟩),(.string ⟨#[]⟩),(.int .i64 0)]) 48 rfl Tryz.underlying52 nD rfl (by decide) (by omega) v1 (out++[(6,bf,⟨#[35]⟩,kF add a1)]) r2 A9 r2.length c9 (fun _=>True) (fun _=>False) rfl rfl HR7.out (Kd.aZ HR9.out).2.2 (fun _ _ h=>h) (fun _ h=>h.elim) (fun _ _=>trivial) HB9.out (aQ HB9.out) ?aL ?_;(case aL=>have h9:=HZ.out;have h1:=hol.out;have h2:=HL2.out;rw [List.length_append];simp only [List.length_cons,List.length_nil];omega);intro v10 w10 ho hb10 hg10 _;have HR10:=z0 ho;have HB10:=z0 hb10;clear ho hb10 hg10)))
              go_ret
              exact ⟨_,rfl,Kd.fZ HR10.out HWW.out,mX HB8.out HWW.out HB10.out⟩
            · rw [if_neg hl2] at H;simp at H
          · rw [if_neg hf] at H;simp at H
        · rw [if_neg hk] at H
          have HN:=z0 H
          have hkb:(kd==7)=false:=by simpa using hk
          clear H hk
          go_wp2_with (at_builtin;go_loud (refine Kd.fH kTk (w0:=w8) w8.heap.size rfl (.tmp 48) (.tmp 50) 52 95 (.agg #[(.int .i64 0),(.string ⟨#[]⟩),(.string ⟨#[]⟩),(.int .i64 0)]) 48 rfl Tryz.underlying52 nD rfl (by decide) (by omega) u7 out (kd,bf,tx,kF add a1) [.int .i64 kd,.string bf,.string tx,.int .i64 (kF add a1)] (fun _=>True) (fun _=>False) rfl (by rw [bT];rfl) (rX _ _ _ (kd,bf,tx,kF add a1)) (fun _ hk=>hk.elim) (fun _ _=>trivial) ?aO ?aB ?aS ?aL ?_;(case aO=>exact Kd.dP hR.out _);(case aB=>exact aA hB.out _);(case aS=>exact aQ (aA hB.out _));(case aL=>have:=hol.out;have h9:=HZ.out;omega);intro v1 w6 ho hb6 hg6 _;have HR6:=z0 ho;have HB6:=z0 hb6;clear ho hb6 hg6))
          go_roundg g1
          case measure=>first|omega|(have h9:=HZ.out;omega)
          case rel=>exact ⟨i+1,out++[(kd,bf,tx,kF add a1)],by (have h9:(i:Int)+1≤1000000:=(by have h8:=HZ.out;omega);rw [HW1.out i (by omega)];first|rfl|(simp;done)|go_num),⟨by omega⟩,HN,⟨by simp [hol.out]⟩,HR6,HB6⟩
    · rw [if_neg hl] at h;simp at h
  · rw [if_neg he] at h
    obtain rfl:=Option.some.inj h
    have hE:(er !=0)=true:=by simp [he]
    have hE2:(er==0)=false:=by simp [he]
    clear h he
    go_enter Tryz.func126,Tryz.ntmps126
    go_wp2_with (go_at_call 40;go_loud (refine H40.mono ?_;rintro e w8 ⟨v,rfl,hR,hb⟩;have HB8:=z0 hb;clear hR hb))
    go_ret
    exact ⟨_,rfl,Kd.gQ _ _ _ _ _,HB8.out⟩
end Go.Proofs.YtolaiebjmhieiaaGreatDoor.OScan
end
section
namespace Go.Proofs.YtolaiebjmhieiaaGreatDoor.OCond
open Go.RowKit YtolaiebjmhieiaaGreatDoorW.PrintWords YtolaiebjmhieiaaGreatDoorW.PrintLast YtolaiebjmhieiaaGreatDoorW.PrintMore
attribute [local go_sem] jF jD ku jZ jc iZ jE jC
structure S95 where
 f0:Int
 f1:ByteArray
 f2:ByteArray
 f3:Int
def z95:S95:=⟨(0:Int),(⟨#[]⟩:ByteArray),(⟨#[]⟩:ByteArray),(0:Int)⟩
def k95:Kd S95:=Kd.iso (Kd.pair (Kd.int .i64) (Kd.pair Kd.string (Kd.pair Kd.string (Kd.int .i64)))) (fun x:S95=>(x.f0,x.f1,x.f2,x.f3))
theorem wX {w:World}{x:S95}{cs:List Value}(h:k95.K w x cs):cs=[.int .i64 x.f0,.string x.f1,.string x.f2,.int .i64 x.f3]:=by
 obtain ⟨_,_,rfl,rfl,⟨_,_,rfl,rfl,⟨_,_,rfl,rfl,rfl⟩⟩⟩:=h
 exact rfl
def iF (xs:List S95)(i:Int):S95:=xs.getD i.toNat z95
theorem pG {w:World}{A:Option Addr}{n:Nat}{xs:List S95}(h:Kd.C k95 w A n xs)(i:Int)(h0:0≤i)(h1:i<n):∃ad,A=some ad∧w.cell? (ad.add (i.toNat*4))=some (.int .i64 (iF xs i).f0)∧w.cell? ⟨(ad.add (i.toNat*4)).block,(ad.add (i.toNat*4)).off+1,none⟩=some (.string (iF xs i).f1)∧w.cell? ⟨(ad.add (i.toNat*4)).block,(ad.add (i.toNat*4)).off+2,none⟩=some (.string (iF xs i).f2)∧w.cell? ⟨(ad.add (i.toNat*4)).block,(ad.add (i.toNat*4)).off+3,none⟩=some (.int .i64 (iF xs i).f3):=by
 obtain ⟨ad,c,e,_,hK,hc0⟩:=Kd.pJ h z95 i h0 h1
 have hc:∀j u,c[j]? =some u→w.cell? (ad.add (i.toNat*4+j))=some u:=hc0
 obtain rfl:=wX hK
 exact ⟨ad,e,hc 0 _ rfl,by rw [←gZ _ _ 1 (by omega)];exact hc 1 _ rfl,by rw [←gZ _ _ 2 (by omega)];exact hc 2 _ rfl,by rw [←gZ _ _ 3 (by omega)];exact hc 3 _ rfl⟩
end Go.Proofs.YtolaiebjmhieiaaGreatDoor.OCond
end
