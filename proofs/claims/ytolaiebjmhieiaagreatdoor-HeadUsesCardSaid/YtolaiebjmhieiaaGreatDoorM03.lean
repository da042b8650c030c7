/- Parts of the proof of HeadUses; no condition. -/
import Derived.Test.YtolaiebjmhieiaaGreatDoorM01
import Derived.Test.YtolaiebjmhieiaaGreatDoorM02
import Derived.Laws.EntriesVeiled
import Derived.BigRegion
import Derived.Lib.PathFns
set_option maxHeartbeats 8000000
set_option maxRecDepth 100000
set_option linter.unusedVariables false
set_option linter.unusedSimpArgs false
section
namespace Go.Proofs.YtolaiebjmhieiaaGreatDoor.OScan
open Go.RowKit YtolaiebjmhieiaaGreatDoorW.PrintWords YtolaiebjmhieiaaGreatDoorW.PrintLast YtolaiebjmhieiaaGreatDoorW.PrintMore
attribute [local go_sem] max2_int min2_int max_two min_two max_three min_three max_four min_four
def stringslite_HasSuffix.f (a0:ByteArray)(a1:ByteArray):Option (Bool):=if (a0.size:Int)≥(a1.size:Int) then (if 0≤(wrap64 ((a0.size:Int)-(a1.size:Int))) then (if (wrap64 ((a0.size:Int)-(a1.size:Int)))≤(a0.size:Int) then (some ((a0.extract ((wrap64 ((a0.size:Int)-(a1.size:Int))):Int).toNat a0.size).toList==a1.toList)) else (none)) else (none)) else (some false)
theorem stringslite_HasSuffix.calls (a0:ByteArray)(a1:ByteArray)(r:Bool)(w:World)(h:stringslite_HasSuffix.f a0 a1=some r):
 Calls Tryz.prog 190 #[.string a0,.string a1] w fun e w'=>e= .returned (.bool r)∧Drawn0 w w':=by
 have H:=h
 clear h
 unfold stringslite_HasSuffix.f at H
 by_cases c3:(a0.size:Int)≥(a1.size:Int)
 · rw [if_pos c3] at H
   have c3b0:decide ((a1.size:Int)≤(a0.size:Int))=true:=decide_eq_true c3
   have c3b1:decide (a1.size≤a0.size)=true:=decide_eq_true (Int.ofNat_le.mp c3)
   clear c3
   generalize hji4:(wrap64 ((a0.size:Int)-(a1.size:Int)))=ji4 at H
   have hji4w:(IntKind.i64.wrap ((a0.size:Int)-(a1.size:Int)))=ji4:=(i64_w _).trans hji4
   replace H:=zyn H
   obtain ⟨c5b0,c5b1,H⟩:=H
   replace H:=zyn H
   obtain ⟨c6b0,c6b1,H⟩:=H
   obtain rfl:=Option.some.inj H
   go_enter Tryz.func190,Tryz.ntmps190
   go_wp2
   go_ret
   exact ⟨by first|rfl|(simp;done)|(simp only [←hji4]<;>(first|rfl|simp))|(simp [*];done),zq⟩
 · rw [if_neg c3] at H
   have c3b0:decide ((a1.size:Int)≤(a0.size:Int))=false:=decide_eq_false c3
   have c3b1:decide (a1.size≤a0.size)=false:=decide_eq_false (fun h=>c3 (Int.ofNat_le.mpr h))
   clear c3
   obtain rfl:=Option.some.inj H
   go_enter Tryz.func190,Tryz.ntmps190
   go_wp2
   go_ret
   exact ⟨zr,zq⟩
def stringslite_TrimSuffix.f (a0:ByteArray)(a1:ByteArray):Option (ByteArray):=(stringslite_HasSuffix.f a0 a1).bind fun t205=>(if t205=true then (if 0≤(wrap64 ((a0.size:Int)-(a1.size:Int))) then (if (wrap64 ((a0.size:Int)-(a1.size:Int)))≤(a0.size:Int) then (some (a0.extract 0 ((wrap64 ((a0.size:Int)-(a1.size:Int))):Int).toNat)) else (none)) else (none)) else (some a0))
theorem stringslite_TrimSuffix.calls (a0:ByteArray)(a1:ByteArray)(r:ByteArray)(w:World)(h:stringslite_TrimSuffix.f a0 a1=some r):
 Calls Tryz.prog 189 #[.string a0,.string a1] w fun e w'=>e= .returned (.string r)∧Drawn0 w w':=by
 have H:=h
 clear h
 unfold stringslite_TrimSuffix.f at H
 replace H:=zo H
 obtain ⟨t205,A3,H⟩:=H
 (try dsimp only at H)
 by_cases c4:t205=true
 · subst c4
   rw [if_pos rfl] at H
   generalize hji5:(wrap64 ((a0.size:Int)-(a1.size:Int)))=ji5 at H
   (try rw [hji5] at A3)
   have hji5w:(IntKind.i64.wrap ((a0.size:Int)-(a1.size:Int)))=ji5:=(i64_w _).trans hji5
   replace H:=zyn H
   obtain ⟨c6b0,c6b1,H⟩:=H
   replace H:=zyn H
   obtain ⟨c7b0,c7b1,H⟩:=H
   obtain rfl:=Option.some.inj H
   go_enter Tryz.func189,Tryz.ntmps189
   go_wp2_with (first|(refine zc 7 rfl Tryz.func190 #[.string a0,.string a1] ?_;refine za (stringslite_HasSuffix.calls a0 a1 true _ A3.out) fun nd=> ?_))
   go_ret
   exact ⟨by first|rfl|(simp;done)|(simp only [←hji5]<;>(first|rfl|simp))|(simp [*];done),zq⟩
 · replace c4:=Bool.eq_false_iff.mpr c4
   subst c4
   rw [if_neg nofun] at H
   obtain rfl:=Option.some.inj H
   go_enter Tryz.func189,Tryz.ntmps189
   go_wp2_with (first|(refine zc 7 rfl Tryz.func190 #[.string a0,.string a1] ?_;refine za (stringslite_HasSuffix.calls a0 a1 false _ A3.out) fun nd=> ?_))
   go_ret
   exact ⟨zr,zq⟩
def strings_TrimSuffix.f (a0:ByteArray)(a1:ByteArray):Option (ByteArray):=(stringslite_TrimSuffix.f a0 a1).bind fun t206=>(some t206)
theorem strings_TrimSuffix.calls (a0:ByteArray)(a1:ByteArray)(r:ByteArray)(w:World)(h:strings_TrimSuffix.f a0 a1=some r):
 Calls Tryz.prog 162 #[.string a0,.string a1] w fun e w'=>e= .returned (.string r)∧Drawn0 w w':=by
 have H:=h
 clear h
 unfold strings_TrimSuffix.f at H
 replace H:=zo H
 obtain ⟨t206,A3,H⟩:=H
 (try dsimp only at H)
 obtain rfl:=Option.some.inj H
 go_enter Tryz.func162,Tryz.ntmps162
 go_wp2_with (first|(refine zc 7 rfl Tryz.func189 #[.string a0,.string a1] ?_;refine za (stringslite_TrimSuffix.calls a0 a1 t206 _ A3.out) fun nd=> ?_))
 go_ret
 exact ⟨zr,zq⟩
def strings_HasSuffix.f (a0:ByteArray)(a1:ByteArray):Option (Bool):=(stringslite_HasSuffix.f a0 a1).bind fun t207=>(some t207)
theorem strings_HasSuffix.calls (a0:ByteArray)(a1:ByteArray)(r:Bool)(w:World)(h:strings_HasSuffix.f a0 a1=some r):
 Calls Tryz.prog 163 #[.string a0,.string a1] w fun e w'=>e= .returned (.bool r)∧Drawn0 w w':=by
 have H:=h
 clear h
 unfold strings_HasSuffix.f at H
 replace H:=zo H
 obtain ⟨t207,A3,H⟩:=H
 (try dsimp only at H)
 obtain rfl:=Option.some.inj H
 go_enter Tryz.func163,Tryz.ntmps163
 go_wp2_with (first|(refine zc 7 rfl Tryz.func190 #[.string a0,.string a1] ?_;refine za (stringslite_HasSuffix.calls a0 a1 t207 _ A3.out) fun nd=> ?_))
 go_ret
 exact ⟨zr,zq⟩
mutual
def lex_scanner_line.j0:Nat→Bool→ByteArray→Int→Value→List ByteArray→Bool→Option (Int × ByteArray × Int × Value × Bool)
 |0,_,_,_,_,_,_=>none
 |k+1,x16,x1000,x1001,x1002,x1003,x1004=>if x16=true then (some (0,x1000,x1001,x1002,x1004)) else ((lex_scanner_rest.f x1000 x1001 x1002 x1003 x1004).bind fun bt213=>(lex_scanner_line.l0 k bt213.1 0 bt213.2.1 bt213.2.2.1 bt213.2.2.2.1 x1003 bt213.2.2.2.2))
def lex_scanner_line.l0:Nat→ByteArray→Int→ByteArray→Int→Value→List ByteArray→Bool→Option (Int × ByteArray × Int × Value × Bool)
 |0,_,_,_,_,_,_,_=>none
 |k+1,x3,x4,x1000,x1001,x1002,x1003,x1004=>if 0≤x4 then (if x4≤(x3.size:Int) then ((strings_IndexByte.f (x3.extract (x4:Int).toNat x3.size) 10).bind fun t218=>(if t218<0 then (some ((x3.size:Int),x1000,x1001,x1002,x1004)) else (if 0≤(wrap64 (x4+t218)) then (if (wrap64 (x4+t218))≤(x3.size:Int) then ((strings_TrimSuffix.f (x3.extract 0 ((wrap64 (x4+t218)):Int).toNat) (⟨#[13]⟩:ByteArray)).bind fun t219=>((strings_HasSuffix.f (x3.extract 0 ((wrap64 (x4+t218)):Int).toNat) (⟨#[92]⟩:ByteArray)).bind fun t220=>(if t220=true then (lex_scanner_line.l0 k x3 (wrap64 ((wrap64 (x4+t218))+1)) x1000 x1001 x1002 x1003 x1004) else ((strings_HasSuffix.f t219 (⟨#[92]⟩:ByteArray)).bind fun t221=>(if t221=true then (lex_scanner_line.l0 k x3 (wrap64 ((wrap64 (x4+t218))+1)) x1000 x1001 x1002 x1003 x1004) else (some ((t219.size:Int),x1000,x1001,x1002,x1004))))))) else (none)) else (none)))) else (none)) else (none)
end
def lex_scanner_line.f (k:Nat)(s0_0:ByteArray)(s0_1:Int)(s0_2:Value)(s0_3:List ByteArray)(s0_4:Bool):Option (Int × ByteArray × Int × Value × Bool):=if s0_4=true then ((lex_scanner_next.f s0_0 s0_1 s0_2 s0_3 s0_4 0).bind fun bt208=>(lex_scanner_line.j0 k (bt208.1 !=35) bt208.2.1 bt208.2.2.1 bt208.2.2.2.1 s0_3 bt208.2.2.2.2)) else (lex_scanner_line.j0 k true s0_0 s0_1 s0_2 s0_3 s0_4)
theorem lex_scanner_line.calls (k:Nat)(g:Nat)(s0_0:ByteArray)(s0_1:Int)(s0_2:Value)(s0_3:List ByteArray)(s0_4:Bool)(r1:Int)(r2:ByteArray)(r3:Int)(r4:Value)(r5:Bool)(w0 w:World)(hI:IsS125 w0 w g s0_0 s0_1 s0_2 s0_3 s0_4)(hB:Below w0.heap.size w0 w)(h:lex_scanner_line.f k s0_0 s0_1 s0_2 s0_3 s0_4=some (r1,r2,r3,r4,r5)):
 Calls Tryz.prog 119 #[.pointer (some ⟨g,0,none⟩)] w fun e w'=>e= .returned (.int .i64 r1)∧IsS125 w0 w' g r2 r3 r4 s0_3 r5∧Below w0.heap.size w0 w'∧KeepBut w w' g none:=by
 have HI0:=z0 hI
 have HK:=z0 (KeepBut.refl w g none)
 have HL:=z0 hB.size
 clear hI
 have HW0:=z0 hB.size
 have HB:=z0 hB
 clear hB
 have H:=h
 clear h
 unfold lex_scanner_line.f at H
 have HC2:=z0 H
 clear H
 go_enter Tryz.func119,Tryz.ntmps119
 go_upto_region 1 with (fail)
 go_cut [16] (fun v16 wc=>∃(kq:Nat) (x16_1:Bool) (x1000_1:ByteArray) (x1001_1:Int) (x1002_1:Value) (x1004_1:Bool),v16= .bool x16_1∧Aside0 (lex_scanner_line.j0 kq x16_1 x1000_1 x1001_1 x1002_1 s0_3 x1004_1=some (r1,r2,r3,r4,r5))∧Aside0 (kq≤k)∧Aside0 (IsS125 w0 wc g x1000_1 x1001_1 x1002_1 s0_3 x1004_1)∧Aside0 (KeepBut w wc g none)∧Aside0 (Below w0.heap.size w0 wc))
 case first=>
  have H:=HC2.out
  clear HC2
  by_cases c3:s0_4=true
  · subst c3
    rw [if_pos rfl] at H
    replace H:=zo H
    obtain ⟨⟨t208,t209,t210,t211,t212⟩,A4,H⟩:=H
    (try dsimp only at H)
    have H':=z0 H
    clear H
    obtain ⟨ASz5_3,cSz5_3,HSz5_3,hcz5_0,hcz5_1,hcz5_2,hcz5_3,hcz5_4,hfz5_0,hfz5_1,hfz5_2,hfz5_4⟩:=zs HI0.out
    go_wp2_with (first|(go_at_call 159;(with_reducible refine (lex_scanner_next.calls g s0_0 s0_1 s0_2 s0_3 true 0 t208 t209 t210 t211 t212 w0 _ ?side1 ?side2 A4.out).mono ?_);(case side1=>exact zi);(case side2=>exact zw);rintro e w6 ⟨rfl,hi,hb,hk⟩;have n0_:=z0 (KeepBut.trans zk hk (.inl rfl));have n1_:=z0 (hb);have n2_:=z0 (hi);revert n0_ n1_ n2_;clear HK HB HI0;intro HK HB HI0;(try clear hb);(try clear hk);(try clear hi)))
    go_meet
    case rel=>exact ⟨_,((t208 !=35)),(t209),(t210),(t211),(t212),zr,H',⟨by first|omega|exact Nat.le_refl _⟩,⟨zi⟩,⟨zk⟩,⟨zw⟩⟩
  · replace c3:=Bool.eq_false_iff.mpr c3
    subst c3
    rw [if_neg nofun] at H
    have H':=z0 H
    clear H
    obtain ⟨ASz7_3,cSz7_3,HSz7_3,hcz7_0,hcz7_1,hcz7_2,hcz7_3,hcz7_4,hfz7_0,hfz7_1,hfz7_2,hfz7_4⟩:=zs HI0.out
    go_wp2
    go_meet
    case rel=>exact ⟨_,(true),(s0_0),(s0_1),(s0_2),(false),zr,H',⟨by first|omega|exact Nat.le_refl _⟩,⟨zi⟩,⟨zk⟩,⟨zw⟩⟩
 case rest=>
  clear HC2
  (try clear c1);(try clear p2);(try clear c3);(try clear hcz5_0);(try clear hcz5_1);(try clear hcz5_2);(try clear hcz5_3);(try clear hcz5_4);(try clear hcz7_0);(try clear hcz7_1);(try clear hcz7_2);(try clear hcz7_3);(try clear hcz7_4);(try clear hfz5_0);(try clear hfz5_1);(try clear hfz5_2);(try clear hfz5_4);(try clear hfz7_0);(try clear hfz7_1);(try clear hfz7_2);(try clear hfz7_4)
  obtain ⟨kq,x16_1,x1000_1,x1001_1,x1002_1,x1004_1,rfl,HA,HJ1,HI0,HK,HB⟩:=hcut
  cases kq with
  |zero=>exact absurd HA.out (by simp [lex_scanner_line.j0])
  |succ kj1=>
   have H:=HA.out
   clear HA
   simp only [lex_scanner_line.j0] at H
   by_cases c8:x16_1=true
   · subst c8
     rw [if_pos rfl] at H
     simp only [Option.some.injEq,Prod.mk.injEq] at H
     obtain ⟨rfl,rfl,rfl,rfl,rfl⟩:=H
     go_wp2
     go_ret
     exact ⟨zv,zi,zw,zk⟩
   · replace c8:=Bool.eq_false_iff.mpr c8
     subst c8
     rw [if_neg nofun] at H
     replace H:=zo H
     obtain ⟨⟨t213,t214,t215,t216,t217⟩,A9,H⟩:=H
     (try dsimp only at H)
     have H':=z0 H
     clear H
     go_wp2_with (first|(refine zc 18 rfl Tryz.func161 #[.pointer (some ⟨g,0,none⟩)] ?_;refine zj (lex_scanner_rest.calls g x1000_1 x1001_1 x1002_1 s0_3 x1004_1 t213 t214 t215 t216 t217 w0 _ zi zw A9.out) zk ?_;clear HK HB HI0;intro w10 HK HB HI0))
     try go_simp
     go_loopg [4] kj1 (fun kq v4 w'=>∃(x4_2:Int),v4= .int .i64 x4_2∧Aside0 (lex_scanner_line.l0 kq t213 x4_2 t214 t215 t216 s0_3 t217=some (r1,r2,r3,r4,r5))∧Aside0 (kq≤kj1)∧Aside0 (IsS125 w0 w' g t214 t215 t216 s0_3 t217)∧Aside0 (KeepBut w w' g none)∧Aside0 (Below w0.heap.size w0 w'))
     case atStart=>exact ⟨(0),zr,H',⟨Nat.le_refl _⟩,⟨zi⟩,⟨zk⟩,⟨zw⟩⟩
     case round=>
      clear H'
      (try clear c1);(try clear p2);(try clear c3);(try clear c8);(try clear hcz5_0);(try clear hcz5_1);(try clear hcz5_2);(try clear hcz5_3);(try clear hcz5_4);(try clear hcz7_0);(try clear hcz7_1);(try clear hcz7_2);(try clear hcz7_3);(try clear hcz7_4);(try clear hfz5_0);(try clear hfz5_1);(try clear hfz5_2);(try clear hfz5_4);(try clear hfz7_0);(try clear hfz7_1);(try clear hfz7_2);(try clear hfz7_4);(try clear p2)
      obtain ⟨x4_2,rfl,HA,HK2,HI0,HK,HB⟩:=hrel
      cases gk with
      |zero=>exact absurd HA.out (by simp [lex_scanner_line.l0])
      |succ k2=>
       have H:=HA.out
       clear HA
       simp only [lex_scanner_line.l0] at H
       replace H:=zyn H
       obtain ⟨c11b0,c11b1,H⟩:=H
       replace H:=zyn H
       obtain ⟨c12b0,c12b1,H⟩:=H
       replace H:=zo H
       obtain ⟨t218,A13,H⟩:=H
       (try dsimp only at H)
       replace H:=zd H
       rcases H with ⟨c14b0,H⟩|⟨c14b0,H⟩
       · simp only [Option.some.injEq,Prod.mk.injEq] at H
         obtain ⟨rfl,rfl,rfl,rfl,rfl⟩:=H
         go_wp2_with (first|(refine zc 22 rfl Tryz.func73 #[.string (t213.extract (x4_2:Int).toNat t213.size),.int .u8 10] ?_;refine za (strings_IndexByte.calls (t213.extract (x4_2:Int).toNat t213.size) 10 t218 _ A13.out) fun nd=> ?_))
         go_ret
         exact ⟨zv,zi,zw,zk⟩
       · generalize hji15:(wrap64 (x4_2+t218))=ji15 at H
         (try rw [hji15] at A13)
         have hji15w:(IntKind.i64.wrap (x4_2+t218))=ji15:=(i64_w _).trans hji15
         replace H:=zyn H
         obtain ⟨c16b0,c16b1,H⟩:=H
         replace H:=zyn H
         obtain ⟨c17b0,c17b1,H⟩:=H
         replace H:=zo H
         obtain ⟨t219,A18,H⟩:=H
         (try dsimp only at H)
         have c19b0:=eq_true (of_decide_eq_true (by first|(with_reducible assumption)|assumption):0≤(ji15))
         have c20b0:=eq_true (of_decide_eq_true (by first|(with_reducible assumption)|assumption):(ji15)≤(t213.size:Int))
         replace H:=zo H
         obtain ⟨t220,A21,H⟩:=H
         (try dsimp only at H)
         by_cases c22:t220=true
         · subst c22
           rw [if_pos rfl] at H
           have H':=z0 H
           clear H
           go_wp2_with (first|(refine zc 22 rfl Tryz.func73 #[.string (t213.extract (x4_2:Int).toNat t213.size),.int .u8 10] ?_;refine za (strings_IndexByte.calls (t213.extract (x4_2:Int).toNat t213.size) 10 t218 _ A13.out) fun nd=> ?_)|((with_reducible refine gate_callee (f:=162) rfl ?_);refine goesL_ (some 33) rfl rfl Tryz.func162 zf rfl #[.string (t213.extract 0 ((ji15):Int).toNat),.string (⟨#[13]⟩:ByteArray)] rfl (by (try simp only [List.map_toArray,List.map_cons,List.map_nil]);first|done|(simp only [hji15];rfl)|rfl|(simp only [List.length_drop,List.length_take];rfl)) ?_;refine za (strings_TrimSuffix.calls (t213.extract 0 ((ji15):Int).toNat) (⟨#[13]⟩:ByteArray) t219 _ A18.out) fun nd=> ?_)|((with_reducible refine gate_callee (f:=163) rfl ?_);refine goesL_ (some 37) rfl rfl Tryz.func163 zf rfl #[.string (t213.extract 0 ((ji15):Int).toNat),.string (⟨#[92]⟩:ByteArray)] rfl (by (try simp only [List.map_toArray,List.map_cons,List.map_nil]);first|done|(simp only [hji15];rfl)|rfl|(simp only [List.length_drop,List.length_take];rfl)) ?_;refine za (strings_HasSuffix.calls (t213.extract 0 ((ji15):Int).toNat) (⟨#[92]⟩:ByteArray) true _ A21.out) fun nd=> ?_))
           go_roundg k2
           case measure=>have:=HJ1.out;have:=HK2.out;omega
           case rel=>exact ⟨(wrap64 ((ji15)+1)),(by first|rfl|(simp;done)|(simp only [←hji15]<;>(first|rfl|simp))|(simp [*];done)),H',⟨by have:=HJ1.out;have:=HK2.out;omega⟩,⟨zi⟩,⟨zk⟩,⟨zw⟩⟩
         · replace c22:=Bool.eq_false_iff.mpr c22
           subst c22
           rw [if_neg nofun] at H
           replace H:=zo H
           obtain ⟨t221,A23,H⟩:=H
           (try dsimp only at H)
           by_cases c24:t221=true
           · subst c24
             rw [if_pos rfl] at H
             have H':=z0 H
             clear H
             go_wp2_with (first|(refine zc 22 rfl Tryz.func73 #[.string (t213.extract (x4_2:Int).toNat t213.size),.int .u8 10] ?_;refine za (strings_IndexByte.calls (t213.extract (x4_2:Int).toNat t213.size) 10 t218 _ A13.out) fun nd=> ?_)|((with_reducible refine gate_callee (f:=162) rfl ?_);refine goesL_ (some 33) rfl rfl Tryz.func162 zf rfl #[.string (t213.extract 0 ((ji15):Int).toNat),.string (⟨#[13]⟩:ByteArray)] rfl (by (try simp only [List.map_toArray,List.map_cons,List.map_nil]);first|done|(simp only [hji15];rfl)|rfl|(simp only [List.length_drop,List.length_take];rfl)) ?_;refine za (strings_TrimSuffix.calls (t213.extract 0 ((ji15):Int).toNat) (⟨#[13]⟩:ByteArray) t219 _ A18.out) fun nd=> ?_)|((with_reducible refine gate_callee (f:=163) rfl ?_);refine goesL_ (some 37) rfl rfl Tryz.func163 zf rfl #[.string (t213.extract 0 ((ji15):Int).toNat),.string (⟨#[92]⟩:ByteArray)] rfl (by (try simp only [List.map_toArray,List.map_cons,List.map_nil]);first|done|(simp only [hji15];rfl)|rfl|(simp only [List.length_drop,List.length_take];rfl)) ?_;refine za (strings_HasSuffix.calls (t213.extract 0 ((ji15):Int).toNat) (⟨#[92]⟩:ByteArray) false _ A21.out) fun nd=> ?_)|(go_at_call 163;(with_reducible refine (strings_HasSuffix.calls t219 (⟨#[92]⟩:ByteArray) true _ A23.out).mono ?_);rintro e w' ⟨rfl,⟨nd,rfl⟩⟩))
             go_roundg k2
             case measure=>have:=HJ1.out;have:=HK2.out;omega
             case rel=>exact ⟨(wrap64 ((ji15)+1)),(by first|rfl|(simp;done)|(simp only [←hji15]<;>(first|rfl|simp))|(simp [*];done)),H',⟨by have:=HJ1.out;have:=HK2.out;omega⟩,⟨zi⟩,⟨zk⟩,⟨zw⟩⟩
           · replace c24:=Bool.eq_false_iff.mpr c24
             subst c24
             rw [if_neg nofun] at H
             simp only [Option.some.injEq,Prod.mk.injEq] at H
             obtain ⟨rfl,rfl,rfl,rfl,rfl⟩:=H
             go_wp2_with (first|(refine zc 22 rfl Tryz.func73 #[.string (t213.extract (x4_2:Int).toNat t213.size),.int .u8 10] ?_;refine za (strings_IndexByte.calls (t213.extract (x4_2:Int).toNat t213.size) 10 t218 _ A13.out) fun nd=> ?_)|((with_reducible refine gate_callee (f:=162) rfl ?_);refine goesL_ (some 33) rfl rfl Tryz.func162 zf rfl #[.string (t213.extract 0 ((ji15):Int).toNat),.string (⟨#[13]⟩:ByteArray)] rfl (by (try simp only [List.map_toArray,List.map_cons,List.map_nil]);first|done|(simp only [hji15];rfl)|rfl|(simp only [List.length_drop,List.length_take];rfl)) ?_;refine za (strings_TrimSuffix.calls (t213.extract 0 ((ji15):Int).toNat) (⟨#[13]⟩:ByteArray) t219 _ A18.out) fun nd=> ?_)|((with_reducible refine gate_callee (f:=163) rfl ?_);refine goesL_ (some 37) rfl rfl Tryz.func163 zf rfl #[.string (t213.extract 0 ((ji15):Int).toNat),.string (⟨#[92]⟩:ByteArray)] rfl (by (try simp only [List.map_toArray,List.map_cons,List.map_nil]);first|done|(simp only [hji15];rfl)|rfl|(simp only [List.length_drop,List.length_take];rfl)) ?_;refine za (strings_HasSuffix.calls (t213.extract 0 ((ji15):Int).toNat) (⟨#[92]⟩:ByteArray) false _ A21.out) fun nd=> ?_)|(go_at_call 163;(with_reducible refine (strings_HasSuffix.calls t219 (⟨#[92]⟩:ByteArray) false _ A23.out).mono ?_);rintro e w' ⟨rfl,⟨nd,rfl⟩⟩))
             go_ret
             exact ⟨by first|rfl|(simp [errW_none,errW_some]<;>rfl)|(simp only [←hji15];first|rfl|(simp [errW_none,errW_some]<;>rfl))|(simp [*,errW_none,errW_some]<;>rfl),zi,zw,zk⟩
def lex_scanner_sign.l0:Nat→Int→List ByteArray→Int→Int→ByteArray→Int→Value→List ByteArray→Bool→Option (Int × ByteArray × Int × Value × Bool)
 |0,_,_,_,_,_,_,_,_,_=>none
 |k+1,x3,x9,x10,x11,x1000,x1001,x1002,x1003,x1004=>if x11<x10 then (if 0≤x11 then (if x11<(x9.length:Int) then (if ((rdOf ByteArray.empty x9 x11).size:Int)>x3 then ((lex_scanner_rest.f x1000 x1001 x1002 x1003 x1004).bind fun bt223=>((strings_HasPrefix.f bt223.1 (rdOf ByteArray.empty x9 x11)).bind fun t228=>(if t228=true then (lex_scanner_sign.l0 k ((rdOf ByteArray.empty x9 x11).size:Int) x9 x10 (wrap64 (x11+1)) bt223.2.1 bt223.2.2.1 bt223.2.2.2.1 x1003 bt223.2.2.2.2) else (lex_scanner_sign.l0 k x3 x9 x10 (wrap64 (x11+1)) bt223.2.1 bt223.2.2.1 bt223.2.2.2.1 x1003 bt223.2.2.2.2)))) else (lex_scanner_sign.l0 k x3 x9 x10 (wrap64 (x11+1)) x1000 x1001 x1002 x1003 x1004)) else (none)) else (none)) else (some (x3,x1000,x1001,x1002,x1004))
def lex_scanner_sign.f (k:Nat)(s0_0:ByteArray)(s0_1:Int)(s0_2:Value)(s0_3:List ByteArray)(s0_4:Bool):Option (Int × ByteArray × Int × Value × Bool):=lex_scanner_sign.l0 k 0 s0_3 (s0_3.length:Int) 0 s0_0 s0_1 s0_2 s0_3 s0_4
theorem lex_scanner_sign.calls (k:Nat)(g:Nat)(s0_0:ByteArray)(s0_1:Int)(s0_2:Value)(s0_3:List ByteArray)(s0_4:Bool)(r1:Int)(r2:ByteArray)(r3:Int)(r4:Value)(r5:Bool)(w0 w:World)(hI:IsS125 w0 w g s0_0 s0_1 s0_2 s0_3 s0_4)(hB:Below w0.heap.size w0 w)(h:lex_scanner_sign.f k s0_0 s0_1 s0_2 s0_3 s0_4=some (r1,r2,r3,r4,r5)):
 Calls Tryz.prog 124 #[.pointer (some ⟨g,0,none⟩)] w fun e w'=>e= .returned (.int .i64 r1)∧IsS125 w0 w' g r2 r3 r4 s0_3 r5∧Below w0.heap.size w0 w'∧KeepBut w w' g none:=by
 have HI0:=z0 hI
 have HK:=z0 (KeepBut.refl w g none)
 have HL:=z0 hB.size
 clear hI
 have HW0:=z0 hB.size
 have HB:=z0 hB
 clear hB
 have H:=h
 clear h
 unfold lex_scanner_sign.f at H
 have H':=z0 H
 clear H
 obtain ⟨ASz2_3,cSz2_3,HSz2_3,hcz2_0,hcz2_1,hcz2_2,hcz2_3,hcz2_4,hfz2_0,hfz2_1,hfz2_2,hfz2_4⟩:=zs HI0.out
 go_enter Tryz.func124,Tryz.ntmps124
 go_wp2
 try go_simp
 go_loopg [3,11] k (fun kq v3 v11 w'=>∃(x3_1:Int) (x11_1:Int) (x1000_1:ByteArray) (x1001_1:Int) (x1002_1:Value) (x1004_1:Bool),v3= .int .i64 x3_1∧v11= .int .i64 x11_1∧Aside0 (lex_scanner_sign.l0 kq x3_1 s0_3 (s0_3.length:Int) x11_1 x1000_1 x1001_1 x1002_1 s0_3 x1004_1=some (r1,r2,r3,r4,r5))∧Aside0 (kq≤k)∧Aside0 (IsS125 w0 w' g x1000_1 x1001_1 x1002_1 s0_3 x1004_1)∧Aside0 (KeepBut w w' g none)∧Aside0 (Below w0.heap.size w0 w'))
 case atStart=>exact ⟨(0),(0),(s0_0),(s0_1),(s0_2),(s0_4),zr,zr,H',⟨Nat.le_refl _⟩,⟨zi⟩,⟨zk⟩,⟨zw⟩⟩
 case round=>
  clear H'
  (try clear c1);(try clear p2);(try clear hcz2_0);(try clear hcz2_1);(try clear hcz2_2);(try clear hcz2_3);(try clear hcz2_4);(try clear hfz2_0);(try clear hfz2_1);(try clear hfz2_2);(try clear hfz2_4)
  obtain ⟨x3_1,x11_1,x1000_1,x1001_1,x1002_1,x1004_1,rfl,rfl,HA,HK1,HI0,HK,HB⟩:=hrel
  cases gk with
  |zero=>exact absurd HA.out (by simp [lex_scanner_sign.l0])
  |succ k1=>
   have H:=HA.out
   clear HA
   simp only [lex_scanner_sign.l0] at H
   replace H:=zd H
   rcases H with ⟨c3b0,H⟩|⟨c3b0,H⟩
   · replace H:=zdn H
     obtain ⟨c4b0,H⟩:=H
     replace H:=zdn H
     obtain ⟨c5b0,H⟩:=H
     replace H:=zt H
     rcases H with ⟨c6b0,H⟩|⟨c6b0,H⟩
     · replace H:=zo H
       obtain ⟨⟨t223,t224,t225,t226,t227⟩,A7,H⟩:=H
       (try dsimp only at H)
       replace H:=zo H
       obtain ⟨t228,A8,H⟩:=H
       (try dsimp only at H)
       by_cases c9:t228=true
       · subst c9
         rw [if_pos rfl] at H
         have H':=z0 H
         clear H
         obtain ⟨ASz10_3,cSz10_3,HSz10_3,hcz10_0,hcz10_1,hcz10_2,hcz10_3,hcz10_4,hfz10_0,hfz10_1,hfz10_2,hfz10_4⟩:=zs HI0.out
         have p222:0≤(x11_1:Int):=of_decide_eq_true (by first|(with_reducible assumption)|assumption)
         have q222:x11_1<(s0_3.length:Int):=of_decide_eq_true (by first|(with_reducible assumption)|assumption)
         obtain ⟨ad222,e222,hx222_0⟩:=Kd.at_string HSz2_3 x11_1 p222 q222
         cases e222
         replace hx222_0:=pw_cell_below HB.out hx222_0
         replace p222:=eq_true p222
         replace q222:=eq_true q222
         go_wp2_with (first|(go_at_call 161;(with_reducible refine (lex_scanner_rest.calls g x1000_1 x1001_1 x1002_1 s0_3 x1004_1 t223 t224 t225 t226 t227 w0 _ ?side1 ?side2 A7.out).mono ?_);(case side1=>exact zi);(case side2=>exact zw);rintro e w11 ⟨rfl,hi,hb,hk⟩;have n0_:=z0 (KeepBut.trans zk hk (.inl rfl));have n1_:=z0 (hb);have n2_:=z0 (hi);revert n0_ n1_ n2_;clear HK HB HI0;intro HK HB HI0;(try clear hb);(try clear hk);(try clear hi))|(go_at_call 72;(with_reducible refine (strings_HasPrefix.calls t223 (rdOf ByteArray.empty s0_3 x11_1) true _ A8.out).mono ?_);rintro e w' ⟨rfl,⟨nd,rfl⟩⟩))
         go_roundg k1
         case measure=>have:=HK1.out;omega
         case rel=>exact ⟨(((rdOf ByteArray.empty s0_3 x11_1).size:Int)),(wrap64 (x11_1+1)),(t224),(t225),(t226),(t227),zr,zr,H',⟨by have:=HK1.out;omega⟩,⟨zi⟩,⟨zk⟩,⟨zw⟩⟩
       · replace c9:=Bool.eq_false_iff.mpr c9
         subst c9
         rw [if_neg nofun] at H
         have H':=z0 H
         clear H
         obtain ⟨ASz12_3,cSz12_3,HSz12_3,hcz12_0,hcz12_1,hcz12_2,hcz12_3,hcz12_4,hfz12_0,hfz12_1,hfz12_2,hfz12_4⟩:=zs HI0.out
         have p222:0≤(x11_1:Int):=of_decide_eq_true (by first|(with_reducible assumption)|assumption)
         have q222:x11_1<(s0_3.length:Int):=of_decide_eq_true (by first|(with_reducible assumption)|assumption)
         obtain ⟨ad222,e222,hx222_0⟩:=Kd.at_string HSz2_3 x11_1 p222 q222
         cases e222
         replace hx222_0:=pw_cell_below HB.out hx222_0
         replace p222:=eq_true p222
         replace q222:=eq_true q222
         go_wp2_with (first|(go_at_call 161;(with_reducible refine (lex_scanner_rest.calls g x1000_1 x1001_1 x1002_1 s0_3 x1004_1 t223 t224 t225 t226 t227 w0 _ ?side1 ?side2 A7.out).mono ?_);(case side1=>exact zi);(case side2=>exact zw);rintro e w13 ⟨rfl,hi,hb,hk⟩;have n0_:=z0 (KeepBut.trans zk hk (.inl rfl));have n1_:=z0 (hb);have n2_:=z0 (hi);revert n0_ n1_ n2_;clear HK HB HI0;intro HK HB HI0;(try clear hb);(try clear hk);(try clear hi))|(go_at_call 72;(with_reducible refine (strings_HasPrefix.calls t223 (rdOf ByteArray.empty s0_3 x11_1) false _ A8.out).mono ?_);rintro e w' ⟨rfl,⟨nd,rfl⟩⟩))
         go_roundg k1
         case measure=>have:=HK1.out;omega
         case rel=>exact ⟨(x3_1),(wrap64 (x11_1+1)),(t224),(t225),(t226),(t227),zr,zr,H',⟨by have:=HK1.out;omega⟩,⟨zi⟩,⟨zk⟩,⟨zw⟩⟩
     · have H':=z0 H
       clear H
       obtain ⟨ASz14_3,cSz14_3,HSz14_3,hcz14_0,hcz14_1,hcz14_2,hcz14_3,hcz14_4,hfz14_0,hfz14_1,hfz14_2,hfz14_4⟩:=zs HI0.out
       have p222:0≤(x11_1:Int):=of_decide_eq_true (by first|(with_reducible assumption)|assumption)
       have q222:x11_1<(s0_3.length:Int):=of_decide_eq_true (by first|(with_reducible assumption)|assumption)
       obtain ⟨ad222,e222,hx222_0⟩:=Kd.at_string HSz2_3 x11_1 p222 q222
       cases e222
       replace hx222_0:=pw_cell_below HB.out hx222_0
       replace p222:=eq_true p222
       replace q222:=eq_true q222
       go_wp2
       go_roundg k1
       case measure=>have:=HK1.out;omega
       case rel=>exact ⟨(x3_1),(wrap64 (x11_1+1)),(x1000_1),(x1001_1),(x1002_1),(x1004_1),zr,zr,H',⟨by have:=HK1.out;omega⟩,⟨zi⟩,⟨zk⟩,⟨zw⟩⟩
   · simp only [Option.some.injEq,Prod.mk.injEq] at H
     obtain ⟨rfl,rfl,rfl,rfl,rfl⟩:=H
     go_wp2
     go_ret
     exact ⟨zv,zi,zw,zk⟩
end Go.Proofs.YtolaiebjmhieiaaGreatDoor.OScan
end
section
namespace Go.Proofs.YtolaiebjmhieiaaGreatDoor.OScan
open Go.RowKit YtolaiebjmhieiaaGreatDoorW.PrintWords YtolaiebjmhieiaaGreatDoorW.PrintLast YtolaiebjmhieiaaGreatDoorW.PrintMore
theorem heap_lt {W:World}{i:Nat}{o:Obj}(h:W.heap[i]? =some o):i<W.heap.size:=by
 by_cases hx:i<W.heap.size
 · exact hx
 · rw [Array.getElem?_eq_none (by omega)] at h;simp at h
def KwMap (W:World)(v:Value)(kw:List ByteArray):Prop:=∃b es clock,v= .map (some b)∧W.heap[b]? =some (.map es clock)∧es.toList.map (fun e=>(e.key,e.val))=kw.map (fun t=>(Value.string t,Value.bool true))
theorem find_kw (t:ByteArray):∀(l:List MapEntry) (kw:List ByteArray) (i:Nat),l.map (fun e=>(e.key,e.val))=kw.map (fun t=>(Value.string t,Value.bool true))→
 ∃r,Instr.findNow .string (.string t) l i=some r∧((kw.contains t=true∧∃j,r=some (j,.bool true))∨(kw.contains t=false∧r=none)):=by
 intro l
 induction l with
 |nil=>intro kw i h;cases kw with
  |nil=>exact ⟨none,rfl,.inr ⟨rfl,rfl⟩⟩
  |cons=>simp at h
 |cons e l ih=>
  intro kw i h
  cases kw with
  |nil=>simp at h
  |cons a kw=>
   simp only [List.map_cons,List.cons.injEq,Prod.mk.injEq] at h
   obtain ⟨⟨h1,h2⟩,h3⟩:=h
   simp only [Instr.findNow,h1,Instr.sameNow]
   have hcc:(a::kw).contains t=(t==a||kw.contains t):=by simp only [List.contains_cons]
   cases hta:(t==a)
   · obtain ⟨r,hr,hq⟩:=ih kw (i+1) h3
     refine ⟨r,hr,?_⟩
     rw [hcc,hta,Bool.false_or];exact hq
   · exact ⟨some (i,e.val),rfl,.inl ⟨by rw [hcc,hta,Bool.true_or],i,by rw [h2]⟩⟩
theorem check_kw (W:World)(e:Bool)(n:Nat)(t:ByteArray):(Instr.checkKey e (n+1) 9 (.string t)).run Tryz.prog W= .ok () W:=by
 rw [Instr.checkKey.eq_def];simp [run_underlying Tryz.underlying9]
theorem KwMap.keep {w w':World}{v:Value}{kw:List ByteArray}{g:Nat}{cs:Array Value}{ty:TypeId}{fr:Nat × Nat}(h:KwMap w v kw)(hk:KeepBut w w' g none)(hg:w.heap[g]? =some (.cells cs ty fr)):KwMap w' v kw:=by
 obtain ⟨b,es,clock,rfl,hb,he⟩:=h
 have hl:=heap_lt hb
 refine ⟨b,es,clock,rfl,?_,he⟩
 rw [hk.2 b hl (fun hx=>by subst hx;rw [hb] at hg;cases hg) (by simp),hb]
theorem KwMap.run {W:World}{v:Value}{kw:List ByteArray}(h:KwMap W v kw)(t:ByteArray):(Instr.lookup 112 v (.string t) false).run Tryz.prog W= .ok (.bool (kw.contains t)) W:=by
 obtain ⟨b,es,clock,rfl,hb,he⟩:=h
 obtain ⟨r,hr,hq⟩:=find_kw t es.toList kw 0 he
 have hck:=check_kw W es.isEmpty 9999 t
 rcases hq with ⟨hc,j,rfl⟩|⟨hc,rfl⟩<;>
  simp [Instr.lookup,run_underlying Tryz.underlying112,MapKept.run_getObj_map hb,hck,Instr.findKey,run_underlying Tryz.underlying9,hr,hc,Result.andThen,Tryz.zeroValue4]
end Go.Proofs.YtolaiebjmhieiaaGreatDoor.OScan
end
section
namespace Go.Proofs.YtolaiebjmhieiaaGreatDoor.OScan
open Go.RowKit YtolaiebjmhieiaaGreatDoorW.PrintWords YtolaiebjmhieiaaGreatDoorW.PrintLast YtolaiebjmhieiaaGreatDoorW.PrintMore
attribute [local go_sem] max2_int min2_int max_two min_two max_three min_three max_four min_four
abbrev St:=ByteArray × Int × Value × Bool
def tryAt (k:Nat)(sg:List ByteArray)(j:Nat)(x:St):Option (Int × St):=
 match j with
 |0=>lex_scanner_line.f k x.1 x.2.1 x.2.2.1 sg x.2.2.2
 |1=>lex_scanner_name.f k x.1 x.2.1 x.2.2.1 sg x.2.2.2
 |2=>lex_scanner_number.f k x.1 x.2.1 x.2.2.1 sg x.2.2.2
 |3=>lex_scanner_char.f k x.1 x.2.1 x.2.2.1 sg x.2.2.2
 |4=>lex_scanner_text.f k x.1 x.2.1 x.2.2.1 sg x.2.2.2
 |_=>lex_scanner_sign.f k x.1 x.2.1 x.2.2.1 sg x.2.2.2
def kindAt (j:Nat):Int:=match j with|0=>7|1=>1|2=>3|3=>4|4=>5|_=>6
def tries (k:Nat)(sg:List ByteArray):Nat→Nat→St→Option (Int × Int × St)
 |0,_,x=>some (1,8,x)
 |f+1,j,x=>(tryAt k sg j x).bind fun r=>if 0<r.1 then some (r.1,kindAt j,r.2) else tries k sg f (j+1) r.2
theorem tries_succ (k:Nat)(sg:List ByteArray)(f j:Nat)(x:St):tries k sg (f+1) j x=(tryAt k sg j x).bind fun r=>if 0<r.1 then some (r.1,kindAt j,r.2) else tries k sg f (j+1) r.2:=rfl
def tokTab (g:Nat):Array Value:= #[Value.int IntKind.i64 7,Value.func (Fn.func 119) #[Value.pointer (some {block:=g,off:=0})] #[],
 Value.int IntKind.i64 1,Value.func (Fn.func 120) #[Value.pointer (some {block:=g,off:=0})] #[],
 Value.int IntKind.i64 3,Value.func (Fn.func 121) #[Value.pointer (some {block:=g,off:=0})] #[],
 Value.int IntKind.i64 4,Value.func (Fn.func 122) #[Value.pointer (some {block:=g,off:=0})] #[],
 Value.int IntKind.i64 5,Value.func (Fn.func 123) #[Value.pointer (some {block:=g,off:=0})] #[],
 Value.int IntKind.i64 6,Value.func (Fn.func 124) #[Value.pointer (some {block:=g,off:=0})] #[]]
def finKind (kw:List ByteArray)(kd:Int)(t:ByteArray):Int:=if kd=1∧kw.contains t=true then 2 else kd
def LeSz (w:World)(n:Nat):Prop:=w.heap.size≤n
structure TokW (w0 w W:World)(g T R B:Nat)(b:ByteArray)(at0:Int)(sg:List ByteArray)(kk:Int)(y:St):Prop where
 st:IsS125 w0 W g y.1 y.2.1 y.2.2.1 sg y.2.2.2
 below:Below w0.heap.size w0 W
 keep:KeepBut w W g none
 res:W.heap[R]? =some (Obj.cells #[.int .i64 0,.string ⟨#[]⟩,.string ⟨#[]⟩,.int .i64 0] 95)
 tok:W.heap[T]? =some (Obj.cells #[.int .i64 kk,.string b,.string ⟨#[]⟩,.int .i64 at0] 95)
 tab:W.heap[B]? =some (Obj.cells (tokTab g) 178)
 hT:w.heap.size≤T
 hT0:w0.heap.size≤T
theorem TokW.step {w0 w W W8:World}{g T R B:Nat}{b:ByteArray}{at0 kk:Int}{sg:List ByteArray}{y y':St}{o:Obj}(h:TokW w0 w W g T R B b at0 sg kk y)
 (hi:IsS125 w0 W8 g y'.1 y'.2.1 y'.2.2.1 sg y'.2.2.2) (hb:Below w0.heap.size w0 W8) (hk:KeepBut (W.alloc o) W8 g none) (hT:g≠T) (hR:g≠R) (hB:g≠B):
 TokW w0 w W8 g T R B b at0 sg kk y':=by
 have key:∀{i:Nat} {x:Obj},W.heap[i]? =some x→g≠i→W8.heap[i]? =some x:=fun {i x} hx hn=>by
  have hl:=heap_lt hx
  rw [hk.2 i (by simp;omega) (Ne.symm hn) (by simp),Below.heap_alloc _ _ _ hl,hx]
 refine ⟨hi,hb,KeepBut.trans h.keep (KeepBut.trans (KeepBut.of_below (below_alloc (Below.refl _ _) o) g none) hk (.inl rfl)) (.inl rfl),key h.res hR,key h.tok hT,key h.tab hB,h.hT,h.hT0⟩
theorem TokW.kind {w0 w W:World}{g T R B:Nat}{b:ByteArray}{at0 kk:Int}{sg:List ByteArray}{y:St}(h:TokW w0 w W g T R B b at0 sg kk y)(kd:Int)(hT:g≠T)(hTR:T≠R)(hTB:T≠B):
 TokW w0 w (W.setCell ⟨T,0,none⟩ (.int .i64 kd)).drew g T R B b at0 sg kd y:=by
 refine ⟨(h.st.far hT _).drew,below_drew1 (below_set h.below h.hT0),keep_drew (keep_far h.keep h.hT _),?_,?_,?_,h.hT,h.hT0⟩
 · exact blk_far (p:=⟨T,0,none⟩) h.res (Ne.symm hTR) _
 · show (W.setCell ⟨T,0,none⟩ (.int .i64 kd)).heap[T]? =_
   have:=blk_set h.tok 0 (.int .i64 kd)
   simpa using this
 · exact blk_far (p:=⟨T,0,none⟩) h.tab (Ne.symm hTB) _
theorem tok_end (k:Nat)(g:Nat)(s0_0:ByteArray)(s0_1:Int)(s0_2:Value)(s0_3:List ByteArray)(s0_4:Bool)(b r2:ByteArray)(r3:Int)(r4:Value)(r5:Bool)(w0 w:World)(hI:IsS125 w0 w g s0_0 s0_1 s0_2 s0_3 s0_4)(hB:Below w0.heap.size w0 w)(h:lex_scanner_before.f k s0_0 s0_1 s0_2 s0_3 s0_4=some (b,r2,r3,r4,r5))(hG_:Glob w0)(he:r3≠(r2.size:Int))(n kd:Int)(x:St)(ht:tries k s0_3 6 0 (r2,r3,r4,r5)=some (n,kd,x))(hx0:0≤x.2.1)(hx1:x.2.1+n≤(x.1.size:Int))(hx2:0≤n)(hx3:(x.1.size:Int)≤140737488355328)(kw:List ByteArray)(hx4:x.2.2.1=s0_2)(hM:KwMap w s0_2 kw):
 Calls Tryz.prog 66 #[.pointer (some ⟨g,0,none⟩)] w fun e w'=>e= .returned (.agg #[.int .i64 (finKind kw kd (x.1.extract x.2.1.toNat (x.2.1+n).toNat)),.string b,.string (x.1.extract x.2.1.toNat (x.2.1+n).toNat),.int .i64 r3])∧IsS125 w0 w' g x.1 (x.2.1+n) x.2.2.1 s0_3 false∧Below w0.heap.size w0 w'∧KeepBut w w' g none:=by
 have HI0:=z0 hI
 have HK:=z0 (KeepBut.refl w g none)
 have HB:=z0 hB
 go_enter Tryz.func66,Tryz.ntmps66
 have hnel:g≠w.heap.size:=by obtain ⟨A3,c3,hb,_⟩:=hI;intro hx;subst hx;simp at hb
 go_wp2_with (go_at_call 118;go_loud (refine (lex_scanner_before.calls k g s0_0 s0_1 s0_2 s0_3 s0_4 b r2 r3 r4 r5 w0 _ (HI0.out.alloc _) (below_alloc HB.out _) h hG_).mono ?_;rintro e w5 ⟨rfl,hi,hb,hk⟩;have hi':=z0 hi;obtain ⟨AS,cS,HG,hg,HS⟩:=hi;have hc1:=cellS125_1 HG))
 obtain ⟨w6,hw6⟩:∃w6,w5.alloc (Obj.cells #[.int .i64 0,.string b,.string ⟨#[]⟩,.int .i64 r3] 95)=w6:=⟨_,rfl⟩
 rw [hw6]
 have hI6:IsS125 w0 w6 g r2 r3 r4 s0_3 r5:=hw6▸hi'.out.alloc _
 have hR5:=(hk.2 w.heap.size (by simp) (Ne.symm hnel) (by simp)).trans (blk_new w _)
 have hlt:w.heap.size<w5.heap.size:=by have h1:=hk.1;simp at h1;omega
 have hR6:w6.heap[w.heap.size]? =some (Obj.cells #[.int .i64 0,.string ⟨#[]⟩,.string ⟨#[]⟩,.int .i64 0] 95):=by rw [←hw6];exact (Below.heap_alloc w5 _ _ hlt).trans hR5
 have hT6:w6.heap[w5.heap.size]? =some (Obj.cells #[.int .i64 0,.string b,.string ⟨#[]⟩,.int .i64 r3] 95):=by rw [←hw6];exact blk_new w5 _
 have hB6:Below w0.heap.size w0 w6:=hw6▸below_alloc hb _
 have hne1:g≠w5.heap.size:=by intro hx;subst hx;simp at HG
 have hTR:w5.heap.size≠w.heap.size:=by omega
 have hLR:LeSz w0 w.heap.size:=HB.out.size
 have hLR':LeSz w w.heap.size:=Nat.le_refl _
 have hLT:LeSz w w5.heap.size:=Nat.le_of_lt hlt
 have hLT0:LeSz w0 w5.heap.size:=hb.size
 have hI6':=z0 hI6
 have hK6:Aside0 (KeepBut w w6 g none):=⟨hw6▸keep_alloc (KeepBut.trans (keep_alloc (KeepBut.refl w g none) _) hk (.inl rfl)) _⟩
 clear HG hc1
 obtain ⟨AS6,cS6,HG,hg6,HS6⟩:=hI6
 have hc0:=cellS125_0 HG
 have hc1:=cellS125_1 HG
 have hc4:=cellS125_4 HG
 have hf0:=blk_frozen HG 0
 have hf1:=blk_frozen HG 1
 have hdec:(r3==(r2.size:Int))=false:=(by simpa using he)
 have hdec2:decide (r3=(r2.size:Int))=false:=(by simpa using he)
 have ht0:w6.cell? ⟨w5.heap.size,0,none⟩=some (.int .i64 0):=(blk_cell hT6 0).trans rfl
 have hft0:=blk_frozen hT6 0
 generalize w5.heap.size=T at *
 generalize w.heap.size=R at *
 repeat (go_quiet (fail);try go_wp2)
 have hTB:T<w6.heap.size:=by
  by_cases hx:T<w6.heap.size
  · exact hx
  · rw [Array.getElem?_eq_none (by omega)] at hT6;simp at hT6
 have hRB:R<w6.heap.size:=by omega
 have hgB:g<w6.heap.size:=by
  by_cases hx:g<w6.heap.size
  · exact hx
  · rw [Array.getElem?_eq_none (by omega)] at HG;simp at HG
 obtain ⟨w7,hw7⟩:∃w7,((w6.drewN nq).setCell {block:=T,off:=0} (Value.int IntKind.i64 8)).alloc (Obj.cells (tokTab g) 178)=w7:=⟨_,rfl⟩
 have hB7:w7.heap[w6.heap.size]? =some (Obj.cells (tokTab g) 178):=by
  rw [←hw7]
  have:=blk_new ((w6.drewN nq).setCell {block:=T,off:=0} (Value.int IntKind.i64 8)) (Obj.cells (tokTab g) 178)
  simpa [World.setCell] using this
 have hW7:TokW w0 w w7 g T R w6.heap.size b r3 s0_3 8 (r2,r3,r4,r5):=by
  refine ⟨?_,?_,?_,?_,?_,hB7,hLT,hLT0⟩
  · rw [←hw7];exact ((hI6'.out.drewN nq).far (p:=⟨T,0,none⟩) hne1 _).alloc _
  · rw [←hw7];exact below_alloc (below_set (pw_below_drewN hB6 nq) hLT0) _
  · rw [←hw7];exact keep_alloc (keep_far (p:=⟨T,0,none⟩) (keep_drewN hK6.out nq) hLT _) _
  · rw [←hw7];exact (Below.heap_alloc _ _ _ (by simpa [World.setCell] using hRB)).trans (blk_far (p:=⟨T,0,none⟩) (show (w6.drewN nq).heap[R]? =_ from hR6) (Ne.symm hTR) _)
  · rw [←hw7]
    refine (Below.heap_alloc _ _ _ (by simpa [World.setCell] using hTB)).trans ?_
    have:=blk_set (show (w6.drewN nq).heap[T]? =_ from hT6) 0 (.int .i64 8)
    simpa using this
 simp only [tokTab] at hw7
 rw [hw7]
 have hBg:g≠w6.heap.size:=by omega
 have hTB':T≠w6.heap.size:=by omega
 generalize w6.heap.size=B at *
 go_loopg [5,49] 6 (fun kq v5 v49 w'=>∃(y:St),v5= .int .i64 1∧v49= .int .i64 ((6-kq:Nat):Int)∧Aside0 (kq≤6)∧Aside0 (tries k s0_3 kq (6-kq) y=some (n,kd,x))∧Aside0 (TokW w0 w w' g T R B b r3 s0_3 8 y))
 case atStart=>exact ⟨(r2,r3,r4,r5),rfl,rfl,⟨by omega⟩,⟨ht⟩,⟨hW7⟩⟩
 case round=>
  clear hc0 hc1 hc4 hf0 hf1 ht0 hft0 hR6 hT6 hB7 hW7 ht HG HS6 hw7
  obtain ⟨y,rfl,rfl,hk6,HT,HW⟩:=hrel
  cases gk with
  |zero=>
   have H:=HT.out
   obtain ⟨rfl,rfl,rfl⟩:(1:Int)=n∧(8:Int)=kd∧y=x:=by simpa [tries] using H
   have hb0:decide ((6:Int)<6)=false:=by decide
   have HW9:=HW.out
   obtain ⟨AS9,cS9,HG9,hg9,HS9⟩:=HW9.st
   have hc0:=cellS125_0 HG9
   have hc1:=cellS125_1 HG9
   have hc4:=cellS125_4 HG9
   have hf1:=blk_frozen HG9 1
   have hf4:=blk_frozen HG9 4
   have ht0:wr.cell? ⟨T,0,none⟩=some (.int .i64 8):=(blk_cell HW9.tok 0).trans rfl
   have ht2:wr.cell? ⟨T,2,none⟩=some (.string ⟨#[]⟩):=(blk_cell HW9.tok 2).trans rfl
   have htf2:=blk_frozen HW9.tok 2
   have hwr:IntKind.i64.wrap (y.2.1+1)=y.2.1+1:=IntWalk.i64_in _ (by omega)
   have hwr2:wrap64 (y.2.1+1)=y.2.1+1:=(i64_w _).symm.trans hwr
   have p1:(0≤y.2.1)=True:=eq_true hx0
   have p2:(y.2.1≤y.2.1+1)=True:=eq_true (by omega)
   have p3:(y.2.1+1≤(y.1.size:Int))=True:=eq_true hx1
   have q1:decide (0≤y.2.1)=true:=decide_eq_true hx0
   have q2:decide (y.2.1≤y.2.1+1)=true:=decide_eq_true (by omega)
   have q3:decide (y.2.1+1≤(y.1.size:Int))=true:=decide_eq_true hx1
   go_wp2
   go_region
   obtain ⟨w10,hw10⟩:∃w10,(wr.setCell ⟨T,2,none⟩ (.string (y.1.extract y.2.1.toNat (y.2.1+1).toNat))).drew=w10:=⟨_,rfl⟩
   rw [hw10]
   have hI10:IsS125 w0 w10 g y.1 y.2.1 y.2.2.1 s0_3 y.2.2.2:=hw10▸(HW9.st.far hne1 _).drew
   have hB10:Below w0.heap.size w0 w10:=hw10▸below_drew1 (below_set HW9.below HW9.hT0)
   have hK10:KeepBut w w10 g none:=hw10▸keep_drew (keep_far HW9.keep HW9.hT _)
   have hR10:w10.heap[R]? =some (Obj.cells #[.int .i64 0,.string ⟨#[]⟩,.string ⟨#[]⟩,.int .i64 0] 95):=hw10▸(blk_far (p:=⟨T,2,none⟩) HW9.res (Ne.symm hTR) _)
   have hT10:w10.heap[T]? =some (Obj.cells #[.int .i64 8,.string b,.string (y.1.extract y.2.1.toNat (y.2.1+1).toNat),.int .i64 r3] 95):=by
    have:=blk_set HW9.tok 2 (.string (y.1.extract y.2.1.toNat (y.2.1+1).toNat))
    rw [←hw10];show (wr.setCell ⟨T,2,none⟩ _).heap[T]? =_;simpa using this
   have hTa:=HW9.hT
   have hTb:=HW9.hT0
   clear hc0 hc1 hc4 hf1 hf4 ht0 ht2 htf2 HG9 HW9 hw10
   have hI10':=z0 hI10
   obtain ⟨AS10,cS10,HG10,hg10,HS10⟩:=hI10
   have hc1:=cellS125_1 HG10
   have hc4:=cellS125_4 HG10
   have hf1:=blk_frozen HG10 1
   have hf4:=blk_frozen HG10 4
   have ht0:w10.cell? ⟨T,0,none⟩=some (.int .i64 8):=(blk_cell hT10 0).trans rfl
   have ht1:w10.cell? ⟨T,1,none⟩=some (.string b):=(blk_cell hT10 1).trans rfl
   have ht2:w10.cell? ⟨T,2,none⟩=some (.string (y.1.extract y.2.1.toNat (y.2.1+1).toNat)):=(blk_cell hT10 2).trans rfl
   have ht3:w10.cell? ⟨T,3,none⟩=some (.int .i64 r3):=(blk_cell hT10 3).trans rfl
   have hr0:w10.cell? ⟨R,0,none⟩=some (.int .i64 0):=(blk_cell hR10 0).trans rfl
   have hr1:w10.cell? ⟨R,1,none⟩=some (.string ⟨#[]⟩):=(blk_cell hR10 1).trans rfl
   have hr2:w10.cell? ⟨R,2,none⟩=some (.string ⟨#[]⟩):=(blk_cell hR10 2).trans rfl
   have hr3:w10.cell? ⟨R,3,none⟩=some (.int .i64 0):=(blk_cell hR10 3).trans rfl
   have hrf0:=blk_frozen hR10 0
   have hrf1:=blk_frozen hR10 1
   have hrf2:=blk_frozen hR10 2
   have hrf3:=blk_frozen hR10 3
   go_wp2
   repeat (go_quiet (fail);try go_wp2)
   have hR11:=blk_set (blk_set (blk_set (blk_set (blk_far (p:=⟨g,4,none⟩) (blk_far (p:=⟨g,1,none⟩) (show (w10.drewN nq).heap[R]? =_ from hR10) (Ne.symm hnel) (.int .i64 (y.2.1+1))) (Ne.symm hnel) (.bool false)) 0 (.int .i64 8)) 1 (.string b)) 2 (.string (y.1.extract y.2.1.toNat (y.2.1+1).toNat))) 3 (.int .i64 r3)
   have hv0:=blk_cell hR11 0
   have hv1:=blk_cell hR11 1
   have hv2:=blk_cell hR11 2
   have hv3:=blk_cell hR11 3
   simp at hv0 hv1 hv2 hv3
   (try simp only [Exit.inBlock,Exit.then])
   have hfk:finKind kw 8 (y.1.extract y.2.1.toNat (y.2.1+1).toNat)=8:=by simp [finKind,kindAt]
   rw [hfk]
   refine bodyPost_ret (v:= .agg #[.int .i64 8,.string b,.string (y.1.extract y.2.1.toNat (y.2.1+1).toNat),.int .i64 r3]) ?res rfl ⟨rfl,?i1,?i2,?i3⟩
   case res=>
    clear hR11
    unfold results
    rw [show Tryz.f66.results= #[.cell 2 95] from rfl]
    go_simp
   case i1=>exact (((((((hI10'.out.drewN nq).set_1 _).set_4 _).far (p:=⟨R,0,none⟩) hnel _).far (p:=⟨R,1,none⟩) hnel _).far (p:=⟨R,2,none⟩) hnel _).far (p:=⟨R,3,none⟩) hnel _)
   case i2=>exact below_set (below_set (below_set (below_set (below_set (below_set (pw_below_drewN hB10 nq) hg10) hg10) hLR) hLR) hLR) hLR
   case i3=>exact keep_far (p:=⟨R,3,none⟩) (keep_far (p:=⟨R,2,none⟩) (keep_far (p:=⟨R,1,none⟩) (keep_far (p:=⟨R,0,none⟩) (KeepBut.set_ (KeepBut.set_ (keep_drewN hK10 nq) 1 _) 4 _) hLR' _) hLR' _) hLR' _) hLR' _
  |succ k1=>
   have h6:=hk6.out
   have hcase:k1=5∨k1=4∨k1=3∨k1=2∨k1=1∨k1=0:=by omega
   rcases hcase with rfl|rfl|rfl|rfl|rfl|rfl
   · have H:=HT.out
     rw [tries_succ] at H
     obtain ⟨⟨m,y'⟩,hm,H⟩:=Option.bind_eq_some_iff.mp H
     have hgN:g≠wr.heap.size:=by obtain ⟨_,_,hx,_⟩:=HW.out.st;have:=heap_lt hx;omega
     have hcb0:wr.cell? ⟨B,0,none⟩=some (.int .i64 7):=(blk_cell HW.out.tab 0).trans rfl
     have hcb1:wr.cell? ⟨B,1,none⟩=some (.func (Fn.func 119) #[.pointer (some ⟨g,0,none⟩)] #[]):=(blk_cell HW.out.tab 1).trans rfl
     have hm':lex_scanner_line.f k y.1 y.2.1 y.2.2.1 s0_3 y.2.2.2=some (m,y'.1,y'.2.1,y'.2.2.1,y'.2.2.2):=hm
     have hb0:decide ((0:Int)<6)=true:=by decide
     by_cases hm0:0<m
     · have hd0:decide (0<m)=true:=decide_eq_true hm0
       rw [if_pos hm0] at H
       obtain ⟨rfl,rfl,rfl⟩:m=n∧kindAt 0=kd∧y'=x:=by simpa using H
       go_wp2_with (go_at_call 119;go_loud (refine (lex_scanner_line.calls k g y.1 y.2.1 y.2.2.1 s0_3 y.2.2.2 m y'.1 y'.2.1 y'.2.2.1 y'.2.2.2 w0 _ (HW.out.st.alloc _) (below_alloc HW.out.below _) hm').mono ?_;rintro e w8 ⟨rfl,hi8,hb8,hk8⟩;have HW8:=z0 (HW.out.step hi8 hb8 hk8 hne1 hnel hBg);have hN:=(hk8.2 wr.heap.size (by simp) (Ne.symm hgN) (by simp)).trans (blk_new wr _);have hnc:w8.cell? ⟨wr.heap.size,0,none⟩=some (.int .i64 7):=(blk_cell hN 0).trans rfl;have htc:w8.cell? ⟨T,0,none⟩=some (.int .i64 8):=(blk_cell HW8.out.tok 0).trans rfl;have htf:=blk_frozen HW8.out.tok 0))
       go_region
       obtain ⟨w9,hw9⟩:∃w9,(w8.setCell ⟨T,0,none⟩ (.int .i64 7)).drew=w9:=⟨_,rfl⟩
       rw [hw9]
       have HW9:TokW w0 w w9 g T R B b r3 s0_3 7 y':=hw9▸HW8.out.kind 7 hne1 hTR hTB'
       clear hnc htc htf hN hcb0 hcb1 hi8 hb8 hk8 hw9 HW8
       obtain ⟨AS9,cS9,HG9,hg9,HS9⟩:=HW9.st
       have hc0:=cellS125_0 HG9
       have hc1:=cellS125_1 HG9
       have hc4:=cellS125_4 HG9
       have hf1:=blk_frozen HG9 1
       have hf4:=blk_frozen HG9 4
       have ht0:w9.cell? ⟨T,0,none⟩=some (.int .i64 7):=(blk_cell HW9.tok 0).trans rfl
       have ht2:w9.cell? ⟨T,2,none⟩=some (.string ⟨#[]⟩):=(blk_cell HW9.tok 2).trans rfl
       have htf2:=blk_frozen HW9.tok 2
       have hwr:IntKind.i64.wrap (y'.2.1+m)=y'.2.1+m:=IntWalk.i64_in _ (by omega)
       have hwr2:wrap64 (y'.2.1+m)=y'.2.1+m:=(i64_w _).symm.trans hwr
       have p1:(0≤y'.2.1)=True:=eq_true hx0
       have p2:(y'.2.1≤y'.2.1+m)=True:=eq_true (by omega)
       have p3:(y'.2.1+m≤(y'.1.size:Int))=True:=eq_true hx1
       have q1:decide (0≤y'.2.1)=true:=decide_eq_true hx0
       have q2:decide (y'.2.1≤y'.2.1+m)=true:=decide_eq_true (by omega)
       have q3:decide (y'.2.1+m≤(y'.1.size:Int))=true:=decide_eq_true hx1
       go_wp2
       go_region
       obtain ⟨w10,hw10⟩:∃w10,(w9.setCell ⟨T,2,none⟩ (.string (y'.1.extract y'.2.1.toNat (y'.2.1+m).toNat))).drew=w10:=⟨_,rfl⟩
       rw [hw10]
       have hI10:IsS125 w0 w10 g y'.1 y'.2.1 y'.2.2.1 s0_3 y'.2.2.2:=hw10▸(HW9.st.far hne1 _).drew
       have hB10:Below w0.heap.size w0 w10:=hw10▸below_drew1 (below_set HW9.below HW9.hT0)
       have hK10:KeepBut w w10 g none:=hw10▸keep_drew (keep_far HW9.keep HW9.hT _)
       have hR10:w10.heap[R]? =some (Obj.cells #[.int .i64 0,.string ⟨#[]⟩,.string ⟨#[]⟩,.int .i64 0] 95):=hw10▸(blk_far (p:=⟨T,2,none⟩) HW9.res (Ne.symm hTR) _)
       have hT10:w10.heap[T]? =some (Obj.cells #[.int .i64 7,.string b,.string (y'.1.extract y'.2.1.toNat (y'.2.1+m).toNat),.int .i64 r3] 95):=by
        have:=blk_set HW9.tok 2 (.string (y'.1.extract y'.2.1.toNat (y'.2.1+m).toNat))
        rw [←hw10];show (w9.setCell ⟨T,2,none⟩ _).heap[T]? =_;simpa using this
       have hTa:=HW9.hT
       have hTb:=HW9.hT0
       clear hc0 hc1 hc4 hf1 hf4 ht0 ht2 htf2 HG9 HW9 hw10
       have hI10':=z0 hI10
       obtain ⟨AS10,cS10,HG10,hg10,HS10⟩:=hI10
       have hc1:=cellS125_1 HG10
       have hc4:=cellS125_4 HG10
       have hf1:=blk_frozen HG10 1
       have hf4:=blk_frozen HG10 4
       have ht0:w10.cell? ⟨T,0,none⟩=some (.int .i64 7):=(blk_cell hT10 0).trans rfl
       have ht1:w10.cell? ⟨T,1,none⟩=some (.string b):=(blk_cell hT10 1).trans rfl
       have ht2:w10.cell? ⟨T,2,none⟩=some (.string (y'.1.extract y'.2.1.toNat (y'.2.1+m).toNat)):=(blk_cell hT10 2).trans rfl
       have ht3:w10.cell? ⟨T,3,none⟩=some (.int .i64 r3):=(blk_cell hT10 3).trans rfl
       have hr0:w10.cell? ⟨R,0,none⟩=some (.int .i64 0):=(blk_cell hR10 0).trans rfl
       have hr1:w10.cell? ⟨R,1,none⟩=some (.string ⟨#[]⟩):=(blk_cell hR10 1).trans rfl
       have hr2:w10.cell? ⟨R,2,none⟩=some (.string ⟨#[]⟩):=(blk_cell hR10 2).trans rfl
       have hr3:w10.cell? ⟨R,3,none⟩=some (.int .i64 0):=(blk_cell hR10 3).trans rfl
       have hrf0:=blk_frozen hR10 0
       have hrf1:=blk_frozen hR10 1
       have hrf2:=blk_frozen hR10 2
       have hrf3:=blk_frozen hR10 3
       go_wp2
       repeat (go_quiet (fail);try go_wp2)
       have hR11:=blk_set (blk_set (blk_set (blk_set (blk_far (p:=⟨g,4,none⟩) (blk_far (p:=⟨g,1,none⟩) (show (w10.drewN nq).heap[R]? =_ from hR10) (Ne.symm hnel) (.int .i64 (y'.2.1+m))) (Ne.symm hnel) (.bool false)) 0 (.int .i64 7)) 1 (.string b)) 2 (.string (y'.1.extract y'.2.1.toNat (y'.2.1+m).toNat))) 3 (.int .i64 r3)
       have hv0:=blk_cell hR11 0
       have hv1:=blk_cell hR11 1
       have hv2:=blk_cell hR11 2
       have hv3:=blk_cell hR11 3
       simp at hv0 hv1 hv2 hv3
       (try simp only [Exit.inBlock,Exit.then])
       have hfk:finKind kw (kindAt 0) (y'.1.extract y'.2.1.toNat (y'.2.1+m).toNat)=7:=by simp [finKind,kindAt]
       rw [hfk]
       refine bodyPost_ret (v:= .agg #[.int .i64 7,.string b,.string (y'.1.extract y'.2.1.toNat (y'.2.1+m).toNat),.int .i64 r3]) ?res rfl ⟨rfl,?i1,?i2,?i3⟩
       case res=>
        clear hR11
        unfold results
        rw [show Tryz.f66.results= #[.cell 2 95] from rfl]
        go_simp
       case i1=>exact (((((((hI10'.out.drewN nq).set_1 _).set_4 _).far (p:=⟨R,0,none⟩) hnel _).far (p:=⟨R,1,none⟩) hnel _).far (p:=⟨R,2,none⟩) hnel _).far (p:=⟨R,3,none⟩) hnel _)
       case i2=>exact below_set (below_set (below_set (below_set (below_set (below_set (pw_below_drewN hB10 nq) hg10) hg10) hLR) hLR) hLR) hLR
       case i3=>exact keep_far (p:=⟨R,3,none⟩) (keep_far (p:=⟨R,2,none⟩) (keep_far (p:=⟨R,1,none⟩) (keep_far (p:=⟨R,0,none⟩) (KeepBut.set_ (KeepBut.set_ (keep_drewN hK10 nq) 1 _) 4 _) hLR' _) hLR' _) hLR' _) hLR' _
     · have hd0:decide (0<m)=false:=decide_eq_false hm0
       rw [if_neg hm0] at H
       go_wp2_with (go_at_call 119;go_loud (refine (lex_scanner_line.calls k g y.1 y.2.1 y.2.2.1 s0_3 y.2.2.2 m y'.1 y'.2.1 y'.2.2.1 y'.2.2.2 w0 _ (HW.out.st.alloc _) (below_alloc HW.out.below _) hm').mono ?_;rintro e w8 ⟨rfl,hi8,hb8,hk8⟩;have HW8:=z0 (HW.out.step hi8 hb8 hk8 hne1 hnel hBg)))
       go_roundg 5
       case measure=>omega
       case rel=>exact ⟨y',rfl,rfl,⟨by omega⟩,⟨H⟩,HW8⟩
   · have H:=HT.out
     rw [tries_succ] at H
     obtain ⟨⟨m,y'⟩,hm,H⟩:=Option.bind_eq_some_iff.mp H
     have hgN:g≠wr.heap.size:=by obtain ⟨_,_,hx,_⟩:=HW.out.st;have:=heap_lt hx;omega
     have hcb0:wr.cell? ⟨B,2,none⟩=some (.int .i64 1):=(blk_cell HW.out.tab 2).trans rfl
     have hcb1:wr.cell? ⟨B,3,none⟩=some (.func (Fn.func 120) #[.pointer (some ⟨g,0,none⟩)] #[]):=(blk_cell HW.out.tab 3).trans rfl
     have hm':lex_scanner_name.f k y.1 y.2.1 y.2.2.1 s0_3 y.2.2.2=some (m,y'.1,y'.2.1,y'.2.2.1,y'.2.2.2):=hm
     have hb0:decide ((1:Int)<6)=true:=by decide
     by_cases hm0:0<m
     · have hd0:decide (0<m)=true:=decide_eq_true hm0
       rw [if_pos hm0] at H
       obtain ⟨rfl,rfl,rfl⟩:m=n∧kindAt 1=kd∧y'=x:=by simpa using H
       go_wp2_with (go_at_call 120;go_loud (refine (lex_scanner_name.calls k g y.1 y.2.1 y.2.2.1 s0_3 y.2.2.2 m y'.1 y'.2.1 y'.2.2.1 y'.2.2.2 w0 _ (HW.out.st.alloc _) (below_alloc HW.out.below _) hm').mono ?_;rintro e w8 ⟨rfl,hi8,hb8,hk8⟩;have HW8:=z0 (HW.out.step hi8 hb8 hk8 hne1 hnel hBg);have hN:=(hk8.2 wr.heap.size (by simp) (Ne.symm hgN) (by simp)).trans (blk_new wr _);have hnc:w8.cell? ⟨wr.heap.size,0,none⟩=some (.int .i64 1):=(blk_cell hN 0).trans rfl;have htc:w8.cell? ⟨T,0,none⟩=some (.int .i64 8):=(blk_cell HW8.out.tok 0).trans rfl;have htf:=blk_frozen HW8.out.tok 0))
       go_region
       obtain ⟨w9,hw9⟩:∃w9,(w8.setCell ⟨T,0,none⟩ (.int .i64 1)).drew=w9:=⟨_,rfl⟩
       rw [hw9]
       have HW9:TokW w0 w w9 g T R B b r3 s0_3 1 y':=hw9▸HW8.out.kind 1 hne1 hTR hTB'
       clear hnc htc htf hN hcb0 hcb1 hi8 hb8 hk8 hw9 HW8
       obtain ⟨AS9,cS9,HG9,hg9,HS9⟩:=HW9.st
       have hc0:=cellS125_0 HG9
       have hc1:=cellS125_1 HG9
       have hc4:=cellS125_4 HG9
       have hf1:=blk_frozen HG9 1
       have hf4:=blk_frozen HG9 4
       have ht0:w9.cell? ⟨T,0,none⟩=some (.int .i64 1):=(blk_cell HW9.tok 0).trans rfl
       have ht2:w9.cell? ⟨T,2,none⟩=some (.string ⟨#[]⟩):=(blk_cell HW9.tok 2).trans rfl
       have htf2:=blk_frozen HW9.tok 2
       have hwr:IntKind.i64.wrap (y'.2.1+m)=y'.2.1+m:=IntWalk.i64_in _ (by omega)
       have hwr2:wrap64 (y'.2.1+m)=y'.2.1+m:=(i64_w _).symm.trans hwr
       have p1:(0≤y'.2.1)=True:=eq_true hx0
       have p2:(y'.2.1≤y'.2.1+m)=True:=eq_true (by omega)
       have p3:(y'.2.1+m≤(y'.1.size:Int))=True:=eq_true hx1
       have q1:decide (0≤y'.2.1)=true:=decide_eq_true hx0
       have q2:decide (y'.2.1≤y'.2.1+m)=true:=decide_eq_true (by omega)
       have q3:decide (y'.2.1+m≤(y'.1.size:Int))=true:=decide_eq_true hx1
       go_wp2
       go_region
       obtain ⟨w10,hw10⟩:∃w10,(w9.setCell ⟨T,2,none⟩ (.string (y'.1.extract y'.2.1.toNat (y'.2.1+m).toNat))).drew=w10:=⟨_,rfl⟩
       rw [hw10]
       have hI10:IsS125 w0 w10 g y'.1 y'.2.1 y'.2.2.1 s0_3 y'.2.2.2:=hw10▸(HW9.st.far hne1 _).drew
       have hB10:Below w0.heap.size w0 w10:=hw10▸below_drew1 (below_set HW9.below HW9.hT0)
       have hK10:KeepBut w w10 g none:=hw10▸keep_drew (keep_far HW9.keep HW9.hT _)
       have hR10:w10.heap[R]? =some (Obj.cells #[.int .i64 0,.string ⟨#[]⟩,.string ⟨#[]⟩,.int .i64 0] 95):=hw10▸(blk_far (p:=⟨T,2,none⟩) HW9.res (Ne.symm hTR) _)
       have hT10:w10.heap[T]? =some (Obj.cells #[.int .i64 1,.string b,.string (y'.1.extract y'.2.1.toNat (y'.2.1+m).toNat),.int .i64 r3] 95):=by
        have:=blk_set HW9.tok 2 (.string (y'.1.extract y'.2.1.toNat (y'.2.1+m).toNat))
        rw [←hw10];show (w9.setCell ⟨T,2,none⟩ _).heap[T]? =_;simpa using this
       have hTa:=HW9.hT
       have hTb:=HW9.hT0
       have hM10:KwMap w10 s0_2 kw:=(by obtain ⟨Ax,cx,hgx,_⟩:=HI0.out;exact hM.keep hK10 hgx)
       clear hc0 hc1 hc4 hf1 hf4 ht0 ht2 htf2 HG9 HW9 hw10
       have hI10':=z0 hI10
       obtain ⟨AS10,cS10,HG10,hg10,HS10⟩:=hI10
       have hc1:=cellS125_1 HG10
       have hc4:=cellS125_4 HG10
       have hf1:=blk_frozen HG10 1
       have hf4:=blk_frozen HG10 4
       have ht0:w10.cell? ⟨T,0,none⟩=some (.int .i64 1):=(blk_cell hT10 0).trans rfl
       have ht1:w10.cell? ⟨T,1,none⟩=some (.string b):=(blk_cell hT10 1).trans rfl
       have ht2:w10.cell? ⟨T,2,none⟩=some (.string (y'.1.extract y'.2.1.toNat (y'.2.1+m).toNat)):=(blk_cell hT10 2).trans rfl
       have ht3:w10.cell? ⟨T,3,none⟩=some (.int .i64 r3):=(blk_cell hT10 3).trans rfl
       have hr0:w10.cell? ⟨R,0,none⟩=some (.int .i64 0):=(blk_cell hR10 0).trans rfl
       have hr1:w10.cell? ⟨R,1,none⟩=some (.string ⟨#[]⟩):=(blk_cell hR10 1).trans rfl
       have hr2:w10.cell? ⟨R,2,none⟩=some (.string ⟨#[]⟩):=(blk_cell hR10 2).trans rfl
       have hr3:w10.cell? ⟨R,3,none⟩=some (.int .i64 0):=(blk_cell hR10 3).trans rfl
       have hrf0:=blk_frozen hR10 0
       have hrf1:=blk_frozen hR10 1
       have hrf2:=blk_frozen hR10 2
       have hrf3:=blk_frozen hR10 3
       have hc2:=cellS125_2 HG10
       have htf0:=blk_frozen hT10 0
       have hlk:∀q,(Instr.lookup 112 s0_2 (.string (y'.1.extract y'.2.1.toNat (y'.2.1+m).toNat)) false).run Tryz.prog (w10.drewN q)= .ok (.bool (kw.contains (y'.1.extract y'.2.1.toNat (y'.2.1+m).toNat))) (w10.drewN q):=fun q=>KwMap.run (W:=w10.drewN q) hM10 _
       have hr0:w10.cell? ⟨R,0,none⟩=some (.int .i64 0):=(blk_cell hR10 0).trans rfl
       have hr1:w10.cell? ⟨R,1,none⟩=some (.string ⟨#[]⟩):=(blk_cell hR10 1).trans rfl
       have hr2:w10.cell? ⟨R,2,none⟩=some (.string ⟨#[]⟩):=(blk_cell hR10 2).trans rfl
       have hr3:w10.cell? ⟨R,3,none⟩=some (.int .i64 0):=(blk_cell hR10 3).trans rfl
       have hrf0:=blk_frozen hR10 0
       have hrf1:=blk_frozen hR10 1
       have hrf2:=blk_frozen hR10 2
       have hrf3:=blk_frozen hR10 3
       cases hkw:kw.contains (y'.1.extract y'.2.1.toNat (y'.2.1+m).toNat)
       · rw [hkw] at hlk
         go_wp2
         repeat (go_quiet (fail);try go_wp2)
         have hR11:=blk_set (blk_set (blk_set (blk_set (blk_far (p:=⟨g,4,none⟩) (blk_far (p:=⟨g,1,none⟩) (show (w10.drewN nq).heap[R]? =_ from hR10) (Ne.symm hnel) (.int .i64 (y'.2.1+m))) (Ne.symm hnel) (.bool false)) 0 (.int .i64 1)) 1 (.string b)) 2 (.string (y'.1.extract y'.2.1.toNat (y'.2.1+m).toNat))) 3 (.int .i64 r3)
         have hv0:=blk_cell hR11 0
         have hv1:=blk_cell hR11 1
         have hv2:=blk_cell hR11 2
         have hv3:=blk_cell hR11 3
         simp at hv0 hv1 hv2 hv3
         (try simp only [Exit.inBlock,Exit.then])
         have hfk:finKind kw 1 (y'.1.extract y'.2.1.toNat (y'.2.1+m).toNat)=1:=by simp [finKind,hkw]
         simp only [kindAt] at *
         rw [hfk]
         refine bodyPost_ret (v:= .agg #[.int .i64 1,.string b,.string (y'.1.extract y'.2.1.toNat (y'.2.1+m).toNat),.int .i64 r3]) ?res rfl ⟨rfl,?i1,?i2,?i3⟩
         case res=>
          clear hR11
          unfold results
          rw [show Tryz.f66.results= #[.cell 2 95] from rfl]
          go_simp
         case i1=>exact (((((((hI10'.out.drewN nq).set_1 _).set_4 _).far (p:=⟨R,0,none⟩) hnel _).far (p:=⟨R,1,none⟩) hnel _).far (p:=⟨R,2,none⟩) hnel _).far (p:=⟨R,3,none⟩) hnel _)
         case i2=>exact below_set (below_set (below_set (below_set (below_set (below_set (pw_below_drewN hB10 nq) hg10) hg10) hLR) hLR) hLR) hLR
         case i3=>exact keep_far (p:=⟨R,3,none⟩) (keep_far (p:=⟨R,2,none⟩) (keep_far (p:=⟨R,1,none⟩) (keep_far (p:=⟨R,0,none⟩) (KeepBut.set_ (KeepBut.set_ (keep_drewN hK10 nq) 1 _) 4 _) hLR' _) hLR' _) hLR' _) hLR' _
       · rw [hkw] at hlk
         go_wp2
         repeat (go_quiet (fail);try go_wp2)
         have hR11:=blk_set (blk_set (blk_set (blk_set (blk_far (p:=⟨g,4,none⟩) (blk_far (p:=⟨g,1,none⟩) (blk_far (p:=⟨T,0,none⟩) (show (w10.drewN nq).heap[R]? =_ from hR10) (Ne.symm hTR) (.int .i64 2)) (Ne.symm hnel) (.int .i64 (y'.2.1+m))) (Ne.symm hnel) (.bool false)) 0 (.int .i64 2)) 1 (.string b)) 2 (.string (y'.1.extract y'.2.1.toNat (y'.2.1+m).toNat))) 3 (.int .i64 r3)
         have hv0:=blk_cell hR11 0
         have hv1:=blk_cell hR11 1
         have hv2:=blk_cell hR11 2
         have hv3:=blk_cell hR11 3
         simp at hv0 hv1 hv2 hv3
         (try simp only [Exit.inBlock,Exit.then])
         have hfk:finKind kw 1 (y'.1.extract y'.2.1.toNat (y'.2.1+m).toNat)=2:=by simp [finKind,hkw]
         simp only [kindAt] at *
         rw [hfk]
         refine bodyPost_ret (v:= .agg #[.int .i64 2,.string b,.string (y'.1.extract y'.2.1.toNat (y'.2.1+m).toNat),.int .i64 r3]) ?res rfl ⟨rfl,?i1,?i2,?i3⟩
         case res=>
          clear hR11
          unfold results
          rw [show Tryz.f66.results= #[.cell 2 95] from rfl]
          go_simp
         case i1=>exact ((((((((hI10'.out.drewN nq).far (p:=⟨T,0,none⟩) hne1 (.int .i64 2)).set_1 _).set_4 _).far (p:=⟨R,0,none⟩) hnel _).far (p:=⟨R,1,none⟩) hnel _).far (p:=⟨R,2,none⟩) hnel _).far (p:=⟨R,3,none⟩) hnel _)
         case i2=>exact below_set (below_set (below_set (below_set (below_set (below_set (below_set (pw_below_drewN hB10 nq) hTb) hg10) hg10) hLR) hLR) hLR) hLR
         case i3=>exact keep_far (p:=⟨R,3,none⟩) (keep_far (p:=⟨R,2,none⟩) (keep_far (p:=⟨R,1,none⟩) (keep_far (p:=⟨R,0,none⟩) (KeepBut.set_ (KeepBut.set_ (keep_far (p:=⟨T,0,none⟩) (keep_drewN hK10 nq) hTa _) 1 _) 4 _) hLR' _) hLR' _) hLR' _) hLR' _
     · have hd0:decide (0<m)=false:=decide_eq_false hm0
       rw [if_neg hm0] at H
       go_wp2_with (go_at_call 120;go_loud (refine (lex_scanner_name.calls k g y.1 y.2.1 y.2.2.1 s0_3 y.2.2.2 m y'.1 y'.2.1 y'.2.2.1 y'.2.2.2 w0 _ (HW.out.st.alloc _) (below_alloc HW.out.below _) hm').mono ?_;rintro e w8 ⟨rfl,hi8,hb8,hk8⟩;have HW8:=z0 (HW.out.step hi8 hb8 hk8 hne1 hnel hBg)))
       go_roundg 4
       case measure=>omega
       case rel=>exact ⟨y',rfl,rfl,⟨by omega⟩,⟨H⟩,HW8⟩
   · have H:=HT.out
     rw [tries_succ] at H
     obtain ⟨⟨m,y'⟩,hm,H⟩:=Option.bind_eq_some_iff.mp H
     have hgN:g≠wr.heap.size:=by obtain ⟨_,_,hx,_⟩:=HW.out.st;have:=heap_lt hx;omega
     have hcb0:wr.cell? ⟨B,4,none⟩=some (.int .i64 3):=(blk_cell HW.out.tab 4).trans rfl
     have hcb1:wr.cell? ⟨B,5,none⟩=some (.func (Fn.func 121) #[.pointer (some ⟨g,0,none⟩)] #[]):=(blk_cell HW.out.tab 5).trans rfl
     have hm':lex_scanner_number.f k y.1 y.2.1 y.2.2.1 s0_3 y.2.2.2=some (m,y'.1,y'.2.1,y'.2.2.1,y'.2.2.2):=hm
     have hb0:decide ((2:Int)<6)=true:=by decide
     by_cases hm0:0<m
     · have hd0:decide (0<m)=true:=decide_eq_true hm0
       rw [if_pos hm0] at H
       obtain ⟨rfl,rfl,rfl⟩:m=n∧kindAt 2=kd∧y'=x:=by simpa using H
       go_wp2_with (go_at_call 121;go_loud (refine (lex_scanner_number.calls k g y.1 y.2.1 y.2.2.1 s0_3 y.2.2.2 m y'.1 y'.2.1 y'.2.2.1 y'.2.2.2 w0 _ (HW.out.st.alloc _) (below_alloc HW.out.below _) hm').mono ?_;rintro e w8 ⟨rfl,hi8,hb8,hk8⟩;have HW8:=z0 (HW.out.step hi8 hb8 hk8 hne1 hnel hBg);have hN:=(hk8.2 wr.heap.size (by simp) (Ne.symm hgN) (by simp)).trans (blk_new wr _);have hnc:w8.cell? ⟨wr.heap.size,0,none⟩=some (.int .i64 3):=(blk_cell hN 0).trans rfl;have htc:w8.cell? ⟨T,0,none⟩=some (.int .i64 8):=(blk_cell HW8.out.tok 0).trans rfl;have htf:=blk_frozen HW8.out.tok 0))
       go_region
       obtain ⟨w9,hw9⟩:∃w9,(w8.setCell ⟨T,0,none⟩ (.int .i64 3)).drew=w9:=⟨_,rfl⟩
       rw [hw9]
       have HW9:TokW w0 w w9 g T R B b r3 s0_3 3 y':=hw9▸HW8.out.kind 3 hne1 hTR hTB'
       clear hnc htc htf hN hcb0 hcb1 hi8 hb8 hk8 hw9 HW8
       obtain ⟨AS9,cS9,HG9,hg9,HS9⟩:=HW9.st
       have hc0:=cellS125_0 HG9
       have hc1:=cellS125_1 HG9
       have hc4:=cellS125_4 HG9
       have hf1:=blk_frozen HG9 1
       have hf4:=blk_frozen HG9 4
       have ht0:w9.cell? ⟨T,0,none⟩=some (.int .i64 3):=(blk_cell HW9.tok 0).trans rfl
       have ht2:w9.cell? ⟨T,2,none⟩=some (.string ⟨#[]⟩):=(blk_cell HW9.tok 2).trans rfl
       have htf2:=blk_frozen HW9.tok 2
       have hwr:IntKind.i64.wrap (y'.2.1+m)=y'.2.1+m:=IntWalk.i64_in _ (by omega)
       have hwr2:wrap64 (y'.2.1+m)=y'.2.1+m:=(i64_w _).symm.trans hwr
       have p1:(0≤y'.2.1)=True:=eq_true hx0
       have p2:(y'.2.1≤y'.2.1+m)=True:=eq_true (by omega)
       have p3:(y'.2.1+m≤(y'.1.size:Int))=True:=eq_true hx1
       have q1:decide (0≤y'.2.1)=true:=decide_eq_true hx0
       have q2:decide (y'.2.1≤y'.2.1+m)=true:=decide_eq_true (by omega)
       have q3:decide (y'.2.1+m≤(y'.1.size:Int))=true:=decide_eq_true hx1
       go_wp2
       go_region
       obtain ⟨w10,hw10⟩:∃w10,(w9.setCell ⟨T,2,none⟩ (.string (y'.1.extract y'.2.1.toNat (y'.2.1+m).toNat))).drew=w10:=⟨_,rfl⟩
       rw [hw10]
       have hI10:IsS125 w0 w10 g y'.1 y'.2.1 y'.2.2.1 s0_3 y'.2.2.2:=hw10▸(HW9.st.far hne1 _).drew
       have hB10:Below w0.heap.size w0 w10:=hw10▸below_drew1 (below_set HW9.below HW9.hT0)
       have hK10:KeepBut w w10 g none:=hw10▸keep_drew (keep_far HW9.keep HW9.hT _)
       have hR10:w10.heap[R]? =some (Obj.cells #[.int .i64 0,.string ⟨#[]⟩,.string ⟨#[]⟩,.int .i64 0] 95):=hw10▸(blk_far (p:=⟨T,2,none⟩) HW9.res (Ne.symm hTR) _)
       have hT10:w10.heap[T]? =some (Obj.cells #[.int .i64 3,.string b,.string (y'.1.extract y'.2.1.toNat (y'.2.1+m).toNat),.int .i64 r3] 95):=by
        have:=blk_set HW9.tok 2 (.string (y'.1.extract y'.2.1.toNat (y'.2.1+m).toNat))
        rw [←hw10];show (w9.setCell ⟨T,2,none⟩ _).heap[T]? =_;simpa using this
       have hTa:=HW9.hT
       have hTb:=HW9.hT0
       clear hc0 hc1 hc4 hf1 hf4 ht0 ht2 htf2 HG9 HW9 hw10
       have hI10':=z0 hI10
       obtain ⟨AS10,cS10,HG10,hg10,HS10⟩:=hI10
       have hc1:=cellS125_1 HG10
       have hc4:=cellS125_4 HG10
       have hf1:=blk_frozen HG10 1
       have hf4:=blk_frozen HG10 4
       have ht0:w10.cell? ⟨T,0,none⟩=some (.int .i64 3):=(blk_cell hT10 0).trans rfl
       have ht1:w10.cell? ⟨T,1,none⟩=some (.string b):=(blk_cell hT10 1).trans rfl
       have ht2:w10.cell? ⟨T,2,none⟩=some (.string (y'.1.extract y'.2.1.toNat (y'.2.1+m).toNat)):=(blk_cell hT10 2).trans rfl
       have ht3:w10.cell? ⟨T,3,none⟩=some (.int .i64 r3):=(blk_cell hT10 3).trans rfl
       have hr0:w10.cell? ⟨R,0,none⟩=some (.int .i64 0):=(blk_cell hR10 0).trans rfl
       have hr1:w10.cell? ⟨R,1,none⟩=some (.string ⟨#[]⟩):=(blk_cell hR10 1).trans rfl
       have hr2:w10.cell? ⟨R,2,none⟩=some (.string ⟨#[]⟩):=(blk_cell hR10 2).trans rfl
       have hr3:w10.cell? ⟨R,3,none⟩=some (.int .i64 0):=(blk_cell hR10 3).trans rfl
       have hrf0:=blk_frozen hR10 0
       have hrf1:=blk_frozen hR10 1
       have hrf2:=blk_frozen hR10 2
       have hrf3:=blk_frozen hR10 3
       go_wp2
       repeat (go_quiet (fail);try go_wp2)
       have hR11:=blk_set (blk_set (blk_set (blk_set (blk_far (p:=⟨g,4,none⟩) (blk_far (p:=⟨g,1,none⟩) (show (w10.drewN nq).heap[R]? =_ from hR10) (Ne.symm hnel) (.int .i64 (y'.2.1+m))) (Ne.symm hnel) (.bool false)) 0 (.int .i64 3)) 1 (.string b)) 2 (.string (y'.1.extract y'.2.1.toNat (y'.2.1+m).toNat))) 3 (.int .i64 r3)
       have hv0:=blk_cell hR11 0
       have hv1:=blk_cell hR11 1
       have hv2:=blk_cell hR11 2
       have hv3:=blk_cell hR11 3
       simp at hv0 hv1 hv2 hv3
       (try simp only [Exit.inBlock,Exit.then])
       have hfk:finKind kw (kindAt 2) (y'.1.extract y'.2.1.toNat (y'.2.1+m).toNat)=3:=by simp [finKind,kindAt]
       rw [hfk]
       refine bodyPost_ret (v:= .agg #[.int .i64 3,.string b,.string (y'.1.extract y'.2.1.toNat (y'.2.1+m).toNat),.int .i64 r3]) ?res rfl ⟨rfl,?i1,?i2,?i3⟩
       case res=>
        clear hR11
        unfold results
        rw [show Tryz.f66.results= #[.cell 2 95] from rfl]
        go_simp
       case i1=>exact (((((((hI10'.out.drewN nq).set_1 _).set_4 _).far (p:=⟨R,0,none⟩) hnel _).far (p:=⟨R,1,none⟩) hnel _).far (p:=⟨R,2,none⟩) hnel _).far (p:=⟨R,3,none⟩) hnel _)
       case i2=>exact below_set (below_set (below_set (below_set (below_set (below_set (pw_below_drewN hB10 nq) hg10) hg10) hLR) hLR) hLR) hLR
       case i3=>exact keep_far (p:=⟨R,3,none⟩) (keep_far (p:=⟨R,2,none⟩) (keep_far (p:=⟨R,1,none⟩) (keep_far (p:=⟨R,0,none⟩) (KeepBut.set_ (KeepBut.set_ (keep_drewN hK10 nq) 1 _) 4 _) hLR' _) hLR' _) hLR' _) hLR' _
     · have hd0:decide (0<m)=false:=decide_eq_false hm0
       rw [if_neg hm0] at H
       go_wp2_with (go_at_call 121;go_loud (refine (lex_scanner_number.calls k g y.1 y.2.1 y.2.2.1 s0_3 y.2.2.2 m y'.1 y'.2.1 y'.2.2.1 y'.2.2.2 w0 _ (HW.out.st.alloc _) (below_alloc HW.out.below _) hm').mono ?_;rintro e w8 ⟨rfl,hi8,hb8,hk8⟩;have HW8:=z0 (HW.out.step hi8 hb8 hk8 hne1 hnel hBg)))
       go_roundg 3
       case measure=>omega
       case rel=>exact ⟨y',rfl,rfl,⟨by omega⟩,⟨H⟩,HW8⟩
   · have H:=HT.out
     rw [tries_succ] at H
     obtain ⟨⟨m,y'⟩,hm,H⟩:=Option.bind_eq_some_iff.mp H
     have hgN:g≠wr.heap.size:=by obtain ⟨_,_,hx,_⟩:=HW.out.st;have:=heap_lt hx;omega
     have hcb0:wr.cell? ⟨B,6,none⟩=some (.int .i64 4):=(blk_cell HW.out.tab 6).trans rfl
     have hcb1:wr.cell? ⟨B,7,none⟩=some (.func (Fn.func 122) #[.pointer (some ⟨g,0,none⟩)] #[]):=(blk_cell HW.out.tab 7).trans rfl
     have hm':lex_scanner_char.f k y.1 y.2.1 y.2.2.1 s0_3 y.2.2.2=some (m,y'.1,y'.2.1,y'.2.2.1,y'.2.2.2):=hm
     have hb0:decide ((3:Int)<6)=true:=by decide
     by_cases hm0:0<m
     · have hd0:decide (0<m)=true:=decide_eq_true hm0
       rw [if_pos hm0] at H
       obtain ⟨rfl,rfl,rfl⟩:m=n∧kindAt 3=kd∧y'=x:=by simpa using H
       go_wp2_with (go_at_call 122;go_loud (refine (lex_scanner_char.calls k g y.1 y.2.1 y.2.2.1 s0_3 y.2.2.2 m y'.1 y'.2.1 y'.2.2.1 y'.2.2.2 w0 _ (HW.out.st.alloc _) (below_alloc HW.out.below _) hm').mono ?_;rintro e w8 ⟨rfl,hi8,hb8,hk8⟩;have HW8:=z0 (HW.out.step hi8 hb8 hk8 hne1 hnel hBg);have hN:=(hk8.2 wr.heap.size (by simp) (Ne.symm hgN) (by simp)).trans (blk_new wr _);have hnc:w8.cell? ⟨wr.heap.size,0,none⟩=some (.int .i64 4):=(blk_cell hN 0).trans rfl;have htc:w8.cell? ⟨T,0,none⟩=some (.int .i64 8):=(blk_cell HW8.out.tok 0).trans rfl;have htf:=blk_frozen HW8.out.tok 0))
       go_region
       obtain ⟨w9,hw9⟩:∃w9,(w8.setCell ⟨T,0,none⟩ (.int .i64 4)).drew=w9:=⟨_,rfl⟩
       rw [hw9]
       have HW9:TokW w0 w w9 g T R B b r3 s0_3 4 y':=hw9▸HW8.out.kind 4 hne1 hTR hTB'
       clear hnc htc htf hN hcb0 hcb1 hi8 hb8 hk8 hw9 HW8
       obtain ⟨AS9,cS9,HG9,hg9,HS9⟩:=HW9.st
       have hc0:=cellS125_0 HG9
       have hc1:=cellS125_1 HG9
       have hc4:=cellS125_4 HG9
       have hf1:=blk_frozen HG9 1
       have hf4:=blk_frozen HG9 4
       have ht0:w9.cell? ⟨T,0,none⟩=some (.int .i64 4):=(blk_cell HW9.tok 0).trans rfl
       have ht2:w9.cell? ⟨T,2,none⟩=some (.string ⟨#[]⟩):=(blk_cell HW9.tok 2).trans rfl
       have htf2:=blk_frozen HW9.tok 2
       have hwr:IntKind.i64.wrap (y'.2.1+m)=y'.2.1+m:=IntWalk.i64_in _ (by omega)
       have hwr2:wrap64 (y'.2.1+m)=y'.2.1+m:=(i64_w _).symm.trans hwr
       have p1:(0≤y'.2.1)=True:=eq_true hx0
       have p2:(y'.2.1≤y'.2.1+m)=True:=eq_true (by omega)
       have p3:(y'.2.1+m≤(y'.1.size:Int))=True:=eq_true hx1
       have q1:decide (0≤y'.2.1)=true:=decide_eq_true hx0
       have q2:decide (y'.2.1≤y'.2.1+m)=true:=decide_eq_true (by omega)
       have q3:decide (y'.2.1+m≤(y'.1.size:Int))=true:=decide_eq_true hx1
       go_wp2
       go_region
       obtain ⟨w10,hw10⟩:∃w10,(w9.setCell ⟨T,2,none⟩ (.string (y'.1.extract y'.2.1.toNat (y'.2.1+m).toNat))).drew=w10:=⟨_,rfl⟩
       rw [hw10]
       have hI10:IsS125 w0 w10 g y'.1 y'.2.1 y'.2.2.1 s0_3 y'.2.2.2:=hw10▸(HW9.st.far hne1 _).drew
       have hB10:Below w0.heap.size w0 w10:=hw10▸below_drew1 (below_set HW9.below HW9.hT0)
       have hK10:KeepBut w w10 g none:=hw10▸keep_drew (keep_far HW9.keep HW9.hT _)
       have hR10:w10.heap[R]? =some (Obj.cells #[.int .i64 0,.string ⟨#[]⟩,.string ⟨#[]⟩,.int .i64 0] 95):=hw10▸(blk_far (p:=⟨T,2,none⟩) HW9.res (Ne.symm hTR) _)
       have hT10:w10.heap[T]? =some (Obj.cells #[.int .i64 4,.string b,.string (y'.1.extract y'.2.1.toNat (y'.2.1+m).toNat),.int .i64 r3] 95):=by
        have:=blk_set HW9.tok 2 (.string (y'.1.extract y'.2.1.toNat (y'.2.1+m).toNat))
        rw [←hw10];show (w9.setCell ⟨T,2,none⟩ _).heap[T]? =_;simpa using this
       have hTa:=HW9.hT
       have hTb:=HW9.hT0
       clear hc0 hc1 hc4 hf1 hf4 ht0 ht2 htf2 HG9 HW9 hw10
       have hI10':=z0 hI10
       obtain ⟨AS10,cS10,HG10,hg10,HS10⟩:=hI10
       have hc1:=cellS125_1 HG10
       have hc4:=cellS125_4 HG10
       have hf1:=blk_frozen HG10 1
       have hf4:=blk_frozen HG10 4
       have ht0:w10.cell? ⟨T,0,none⟩=some (.int .i64 4):=(blk_cell hT10 0).trans rfl
       have ht1:w10.cell? ⟨T,1,none⟩=some (.string b):=(blk_cell hT10 1).trans rfl
       have ht2:w10.cell? ⟨T,2,none⟩=some (.string (y'.1.extract y'.2.1.toNat (y'.2.1+m).toNat)):=(blk_cell hT10 2).trans rfl
       have ht3:w10.cell? ⟨T,3,none⟩=some (.int .i64 r3):=(blk_cell hT10 3).trans rfl
       have hr0:w10.cell? ⟨R,0,none⟩=some (.int .i64 0):=(blk_cell hR10 0).trans rfl
       have hr1:w10.cell? ⟨R,1,none⟩=some (.string ⟨#[]⟩):=(blk_cell hR10 1).trans rfl
       have hr2:w10.cell? ⟨R,2,none⟩=some (.string ⟨#[]⟩):=(blk_cell hR10 2).trans rfl
       have hr3:w10.cell? ⟨R,3,none⟩=some (.int .i64 0):=(blk_cell hR10 3).trans rfl
       have hrf0:=blk_frozen hR10 0
       have hrf1:=blk_frozen hR10 1
       have hrf2:=blk_frozen hR10 2
       have hrf3:=blk_frozen hR10 3
       go_wp2
       repeat (go_quiet (fail);try go_wp2)
       have hR11:=blk_set (blk_set (blk_set (blk_set (blk_far (p:=⟨g,4,none⟩) (blk_far (p:=⟨g,1,none⟩) (show (w10.drewN nq).heap[R]? =_ from hR10) (Ne.symm hnel) (.int .i64 (y'.2.1+m))) (Ne.symm hnel) (.bool false)) 0 (.int .i64 4)) 1 (.string b)) 2 (.string (y'.1.extract y'.2.1.toNat (y'.2.1+m).toNat))) 3 (.int .i64 r3)
       have hv0:=blk_cell hR11 0
       have hv1:=blk_cell hR11 1
       have hv2:=blk_cell hR11 2
       have hv3:=blk_cell hR11 3
       simp at hv0 hv1 hv2 hv3
       (try simp only [Exit.inBlock,Exit.then])
       have hfk:finKind kw (kindAt 3) (y'.1.extract y'.2.1.toNat (y'.2.1+m).toNat)=4:=by simp [finKind,kindAt]
       rw [hfk]
       refine bodyPost_ret (v:= .agg #[.int .i64 4,.string b,.string (y'.1.extract y'.2.1.toNat (y'.2.1+m).toNat),.int .i64 r3]) ?res rfl ⟨rfl,?i1,?i2,?i3⟩
       case res=>
        clear hR11
        unfold results
        rw [show Tryz.f66.results= #[.cell 2 95] from rfl]
        go_simp
       case i1=>exact (((((((hI10'.out.drewN nq).set_1 _).set_4 _).far (p:=⟨R,0,none⟩) hnel _).far (p:=⟨R,1,none⟩) hnel _).far (p:=⟨R,2,none⟩) hnel _).far (p:=⟨R,3,none⟩) hnel _)
       case i2=>exact below_set (below_set (below_set (below_set (below_set (below_set (pw_below_drewN hB10 nq) hg10) hg10) hLR) hLR) hLR) hLR
       case i3=>exact keep_far (p:=⟨R,3,none⟩) (keep_far (p:=⟨R,2,none⟩) (keep_far (p:=⟨R,1,none⟩) (keep_far (p:=⟨R,0,none⟩) (KeepBut.set_ (KeepBut.set_ (keep_drewN hK10 nq) 1 _) 4 _) hLR' _) hLR' _) hLR' _) hLR' _
     · have hd0:decide (0<m)=false:=decide_eq_false hm0
       rw [if_neg hm0] at H
       go_wp2_with (go_at_call 122;go_loud (refine (lex_scanner_char.calls k g y.1 y.2.1 y.2.2.1 s0_3 y.2.2.2 m y'.1 y'.2.1 y'.2.2.1 y'.2.2.2 w0 _ (HW.out.st.alloc _) (below_alloc HW.out.below _) hm').mono ?_;rintro e w8 ⟨rfl,hi8,hb8,hk8⟩;have HW8:=z0 (HW.out.step hi8 hb8 hk8 hne1 hnel hBg)))
       go_roundg 2
       case measure=>omega
       case rel=>exact ⟨y',rfl,rfl,⟨by omega⟩,⟨H⟩,HW8⟩
   · have H:=HT.out
     rw [tries_succ] at H
     obtain ⟨⟨m,y'⟩,hm,H⟩:=Option.bind_eq_some_iff.mp H
     have hgN:g≠wr.heap.size:=by obtain ⟨_,_,hx,_⟩:=HW.out.st;have:=heap_lt hx;omega
     have hcb0:wr.cell? ⟨B,8,none⟩=some (.int .i64 5):=(blk_cell HW.out.tab 8).trans rfl
     have hcb1:wr.cell? ⟨B,9,none⟩=some (.func (Fn.func 123) #[.pointer (some ⟨g,0,none⟩)] #[]):=(blk_cell HW.out.tab 9).trans rfl
     have hm':lex_scanner_text.f k y.1 y.2.1 y.2.2.1 s0_3 y.2.2.2=some (m,y'.1,y'.2.1,y'.2.2.1,y'.2.2.2):=hm
     have hb0:decide ((4:Int)<6)=true:=by decide
     by_cases hm0:0<m
     · have hd0:decide (0<m)=true:=decide_eq_true hm0
       rw [if_pos hm0] at H
       obtain ⟨rfl,rfl,rfl⟩:m=n∧kindAt 4=kd∧y'=x:=by simpa using H
       go_wp2_with (go_at_call 123;go_loud (refine (lex_scanner_text.calls k g y.1 y.2.1 y.2.2.1 s0_3 y.2.2.2 m y'.1 y'.2.1 y'.2.2.1 y'.2.2.2 w0 _ (HW.out.st.alloc _) (below_alloc HW.out.below _) hm').mono ?_;rintro e w8 ⟨rfl,hi8,hb8,hk8⟩;have HW8:=z0 (HW.out.step hi8 hb8 hk8 hne1 hnel hBg);have hN:=(hk8.2 wr.heap.size (by simp) (Ne.symm hgN) (by simp)).trans (blk_new wr _);have hnc:w8.cell? ⟨wr.heap.size,0,none⟩=some (.int .i64 5):=(blk_cell hN 0).trans rfl;have htc:w8.cell? ⟨T,0,none⟩=some (.int .i64 8):=(blk_cell HW8.out.tok 0).trans rfl;have htf:=blk_frozen HW8.out.tok 0))
       go_region
       obtain ⟨w9,hw9⟩:∃w9,(w8.setCell ⟨T,0,none⟩ (.int .i64 5)).drew=w9:=⟨_,rfl⟩
       rw [hw9]
       have HW9:TokW w0 w w9 g T R B b r3 s0_3 5 y':=hw9▸HW8.out.kind 5 hne1 hTR hTB'
       clear hnc htc htf hN hcb0 hcb1 hi8 hb8 hk8 hw9 HW8
       obtain ⟨AS9,cS9,HG9,hg9,HS9⟩:=HW9.st
       have hc0:=cellS125_0 HG9
       have hc1:=cellS125_1 HG9
       have hc4:=cellS125_4 HG9
       have hf1:=blk_frozen HG9 1
       have hf4:=blk_frozen HG9 4
       have ht0:w9.cell? ⟨T,0,none⟩=some (.int .i64 5):=(blk_cell HW9.tok 0).trans rfl
       have ht2:w9.cell? ⟨T,2,none⟩=some (.string ⟨#[]⟩):=(blk_cell HW9.tok 2).trans rfl
       have htf2:=blk_frozen HW9.tok 2
       have hwr:IntKind.i64.wrap (y'.2.1+m)=y'.2.1+m:=IntWalk.i64_in _ (by omega)
       have hwr2:wrap64 (y'.2.1+m)=y'.2.1+m:=(i64_w _).symm.trans hwr
       have p1:(0≤y'.2.1)=True:=eq_true hx0
       have p2:(y'.2.1≤y'.2.1+m)=True:=eq_true (by omega)
       have p3:(y'.2.1+m≤(y'.1.size:Int))=True:=eq_true hx1
       have q1:decide (0≤y'.2.1)=true:=decide_eq_true hx0
       have q2:decide (y'.2.1≤y'.2.1+m)=true:=decide_eq_true (by omega)
       have q3:decide (y'.2.1+m≤(y'.1.size:Int))=true:=decide_eq_true hx1
       go_wp2
       go_region
       obtain ⟨w10,hw10⟩:∃w10,(w9.setCell ⟨T,2,none⟩ (.string (y'.1.extract y'.2.1.toNat (y'.2.1+m).toNat))).drew=w10:=⟨_,rfl⟩
       rw [hw10]
       have hI10:IsS125 w0 w10 g y'.1 y'.2.1 y'.2.2.1 s0_3 y'.2.2.2:=hw10▸(HW9.st.far hne1 _).drew
       have hB10:Below w0.heap.size w0 w10:=hw10▸below_drew1 (below_set HW9.below HW9.hT0)
       have hK10:KeepBut w w10 g none:=hw10▸keep_drew (keep_far HW9.keep HW9.hT _)
       have hR10:w10.heap[R]? =some (Obj.cells #[.int .i64 0,.string ⟨#[]⟩,.string ⟨#[]⟩,.int .i64 0] 95):=hw10▸(blk_far (p:=⟨T,2,none⟩) HW9.res (Ne.symm hTR) _)
       have hT10:w10.heap[T]? =some (Obj.cells #[.int .i64 5,.string b,.string (y'.1.extract y'.2.1.toNat (y'.2.1+m).toNat),.int .i64 r3] 95):=by
        have:=blk_set HW9.tok 2 (.string (y'.1.extract y'.2.1.toNat (y'.2.1+m).toNat))
        rw [←hw10];show (w9.setCell ⟨T,2,none⟩ _).heap[T]? =_;simpa using this
       have hTa:=HW9.hT
       have hTb:=HW9.hT0
       clear hc0 hc1 hc4 hf1 hf4 ht0 ht2 htf2 HG9 HW9 hw10
       have hI10':=z0 hI10
       obtain ⟨AS10,cS10,HG10,hg10,HS10⟩:=hI10
       have hc1:=cellS125_1 HG10
       have hc4:=cellS125_4 HG10
       have hf1:=blk_frozen HG10 1
       have hf4:=blk_frozen HG10 4
       have ht0:w10.cell? ⟨T,0,none⟩=some (.int .i64 5):=(blk_cell hT10 0).trans rfl
       have ht1:w10.cell? ⟨T,1,none⟩=some (.string b):=(blk_cell hT10 1).trans rfl
       have ht2:w10.cell? ⟨T,2,none⟩=some (.string (y'.1.extract y'.2.1.toNat (y'.2.1+m).toNat)):=(blk_cell hT10 2).trans rfl
       have ht3:w10.cell? ⟨T,3,none⟩=some (.int .i64 r3):=(blk_cell hT10 3).trans rfl
       have hr0:w10.cell? ⟨R,0,none⟩=some (.int .i64 0):=(blk_cell hR10 0).trans rfl
       have hr1:w10.cell? ⟨R,1,none⟩=some (.string ⟨#[]⟩):=(blk_cell hR10 1).trans rfl
       have hr2:w10.cell? ⟨R,2,none⟩=some (.string ⟨#[]⟩):=(blk_cell hR10 2).trans rfl
       have hr3:w10.cell? ⟨R,3,none⟩=some (.int .i64 0):=(blk_cell hR10 3).trans rfl
       have hrf0:=blk_frozen hR10 0
       have hrf1:=blk_frozen hR10 1
       have hrf2:=blk_frozen hR10 2
       have hrf3:=blk_frozen hR10 3
       go_wp2
       repeat (go_quiet (fail);try go_wp2)
       have hR11:=blk_set (blk_set (blk_set (blk_set (blk_far (p:=⟨g,4,none⟩) (blk_far (p:=⟨g,1,none⟩) (show (w10.drewN nq).heap[R]? =_ from hR10) (Ne.symm hnel) (.int .i64 (y'.2.1+m))) (Ne.symm hnel) (.bool false)) 0 (.int .i64 5)) 1 (.string b)) 2 (.string (y'.1.extract y'.2.1.toNat (y'.2.1+m).toNat))) 3 (.int .i64 r3)
       have hv0:=blk_cell hR11 0
       have hv1:=blk_cell hR11 1
       have hv2:=blk_cell hR11 2
       have hv3:=blk_cell hR11 3
       simp at hv0 hv1 hv2 hv3
       (try simp only [Exit.inBlock,Exit.then])
       have hfk:finKind kw (kindAt 4) (y'.1.extract y'.2.1.toNat (y'.2.1+m).toNat)=5:=by simp [finKind,kindAt]
       rw [hfk]
       refine bodyPost_ret (v:= .agg #[.int .i64 5,.string b,.string (y'.1.extract y'.2.1.toNat (y'.2.1+m).toNat),.int .i64 r3]) ?res rfl ⟨rfl,?i1,?i2,?i3⟩
       case res=>
        clear hR11
        unfold results
        rw [show Tryz.f66.results= #[.cell 2 95] from rfl]
        go_simp
       case i1=>exact (((((((hI10'.out.drewN nq).set_1 _).set_4 _).far (p:=⟨R,0,none⟩) hnel _).far (p:=⟨R,1,none⟩) hnel _).far (p:=⟨R,2,none⟩) hnel _).far (p:=⟨R,3,none⟩) hnel _)
       case i2=>exact below_set (below_set (below_set (below_set (below_set (below_set (pw_below_drewN hB10 nq) hg10) hg10) hLR) hLR) hLR) hLR
       case i3=>exact keep_far (p:=⟨R,3,none⟩) (keep_far (p:=⟨R,2,none⟩) (keep_far (p:=⟨R,1,none⟩) (keep_far (p:=⟨R,0,none⟩) (KeepBut.set_ (KeepBut.set_ (keep_drewN hK10 nq) 1 _) 4 _) hLR' _) hLR' _) hLR' _) hLR' _
     · have hd0:decide (0<m)=false:=decide_eq_false hm0
       rw [if_neg hm0] at H
       go_wp2_with (go_at_call 123;go_loud (refine (lex_scanner_text.calls k g y.1 y.2.1 y.2.2.1 s0_3 y.2.2.2 m y'.1 y'.2.1 y'.2.2.1 y'.2.2.2 w0 _ (HW.out.st.alloc _) (below_alloc HW.out.below _) hm').mono ?_;rintro e w8 ⟨rfl,hi8,hb8,hk8⟩;have HW8:=z0 (HW.out.step hi8 hb8 hk8 hne1 hnel hBg)))
       go_roundg 1
       case measure=>omega
       case rel=>exact ⟨y',rfl,rfl,⟨by omega⟩,⟨H⟩,HW8⟩
   · have H:=HT.out
     rw [tries_succ] at H
     obtain ⟨⟨m,y'⟩,hm,H⟩:=Option.bind_eq_some_iff.mp H
     have hgN:g≠wr.heap.size:=by obtain ⟨_,_,hx,_⟩:=HW.out.st;have:=heap_lt hx;omega
     have hcb0:wr.cell? ⟨B,10,none⟩=some (.int .i64 6):=(blk_cell HW.out.tab 10).trans rfl
     have hcb1:wr.cell? ⟨B,11,none⟩=some (.func (Fn.func 124) #[.pointer (some ⟨g,0,none⟩)] #[]):=(blk_cell HW.out.tab 11).trans rfl
     have hm':lex_scanner_sign.f k y.1 y.2.1 y.2.2.1 s0_3 y.2.2.2=some (m,y'.1,y'.2.1,y'.2.2.1,y'.2.2.2):=hm
     have hb0:decide ((5:Int)<6)=true:=by decide
     by_cases hm0:0<m
     · have hd0:decide (0<m)=true:=decide_eq_true hm0
       rw [if_pos hm0] at H
       obtain ⟨rfl,rfl,rfl⟩:m=n∧kindAt 5=kd∧y'=x:=by simpa using H
       go_wp2_with (go_at_call 124;go_loud (refine (lex_scanner_sign.calls k g y.1 y.2.1 y.2.2.1 s0_3 y.2.2.2 m y'.1 y'.2.1 y'.2.2.1 y'.2.2.2 w0 _ (HW.out.st.alloc _) (below_alloc HW.out.below _) hm').mono ?_;rintro e w8 ⟨rfl,hi8,hb8,hk8⟩;have HW8:=z0 (HW.out.step hi8 hb8 hk8 hne1 hnel hBg);have hN:=(hk8.2 wr.heap.size (by simp) (Ne.symm hgN) (by simp)).trans (blk_new wr _);have hnc:w8.cell? ⟨wr.heap.size,0,none⟩=some (.int .i64 6):=(blk_cell hN 0).trans rfl;have htc:w8.cell? ⟨T,0,none⟩=some (.int .i64 8):=(blk_cell HW8.out.tok 0).trans rfl;have htf:=blk_frozen HW8.out.tok 0))
       go_region
       obtain ⟨w9,hw9⟩:∃w9,(w8.setCell ⟨T,0,none⟩ (.int .i64 6)).drew=w9:=⟨_,rfl⟩
       rw [hw9]
       have HW9:TokW w0 w w9 g T R B b r3 s0_3 6 y':=hw9▸HW8.out.kind 6 hne1 hTR hTB'
       clear hnc htc htf hN hcb0 hcb1 hi8 hb8 hk8 hw9 HW8
       obtain ⟨AS9,cS9,HG9,hg9,HS9⟩:=HW9.st
       have hc0:=cellS125_0 HG9
       have hc1:=cellS125_1 HG9
       have hc4:=cellS125_4 HG9
       have hf1:=blk_frozen HG9 1
       have hf4:=blk_frozen HG9 4
       have ht0:w9.cell? ⟨T,0,none⟩=some (.int .i64 6):=(blk_cell HW9.tok 0).trans rfl
       have ht2:w9.cell? ⟨T,2,none⟩=some (.string ⟨#[]⟩):=(blk_cell HW9.tok 2).trans rfl
       have htf2:=blk_frozen HW9.tok 2
       have hwr:IntKind.i64.wrap (y'.2.1+m)=y'.2.1+m:=IntWalk.i64_in _ (by omega)
       have hwr2:wrap64 (y'.2.1+m)=y'.2.1+m:=(i64_w _).symm.trans hwr
       have p1:(0≤y'.2.1)=True:=eq_true hx0
       have p2:(y'.2.1≤y'.2.1+m)=True:=eq_true (by omega)
       have p3:(y'.2.1+m≤(y'.1.size:Int))=True:=eq_true hx1
       have q1:decide (0≤y'.2.1)=true:=decide_eq_true hx0
       have q2:decide (y'.2.1≤y'.2.1+m)=true:=decide_eq_true (by omega)
       have q3:decide (y'.2.1+m≤(y'.1.size:Int))=true:=decide_eq_true hx1
       go_wp2
       go_region
       obtain ⟨w10,hw10⟩:∃w10,(w9.setCell ⟨T,2,none⟩ (.string (y'.1.extract y'.2.1.toNat (y'.2.1+m).toNat))).drew=w10:=⟨_,rfl⟩
       rw [hw10]
       have hI10:IsS125 w0 w10 g y'.1 y'.2.1 y'.2.2.1 s0_3 y'.2.2.2:=hw10▸(HW9.st.far hne1 _).drew
       have hB10:Below w0.heap.size w0 w10:=hw10▸below_drew1 (below_set HW9.below HW9.hT0)
       have hK10:KeepBut w w10 g none:=hw10▸keep_drew (keep_far HW9.keep HW9.hT _)
       have hR10:w10.heap[R]? =some (Obj.cells #[.int .i64 0,.string ⟨#[]⟩,.string ⟨#[]⟩,.int .i64 0] 95):=hw10▸(blk_far (p:=⟨T,2,none⟩) HW9.res (Ne.symm hTR) _)
       have hT10:w10.heap[T]? =some (Obj.cells #[.int .i64 6,.string b,.string (y'.1.extract y'.2.1.toNat (y'.2.1+m).toNat),.int .i64 r3] 95):=by
        have:=blk_set HW9.tok 2 (.string (y'.1.extract y'.2.1.toNat (y'.2.1+m).toNat))
        rw [←hw10];show (w9.setCell ⟨T,2,none⟩ _).heap[T]? =_;simpa using this
       have hTa:=HW9.hT
       have hTb:=HW9.hT0
       clear hc0 hc1 hc4 hf1 hf4 ht0 ht2 htf2 HG9 HW9 hw10
       have hI10':=z0 hI10
       obtain ⟨AS10,cS10,HG10,hg10,HS10⟩:=hI10
       have hc1:=cellS125_1 HG10
       have hc4:=cellS125_4 HG10
       have hf1:=blk_frozen HG10 1
       have hf4:=blk_frozen HG10 4
       have ht0:w10.cell? ⟨T,0,none⟩=some (.int .i64 6):=(blk_cell hT10 0).trans rfl
       have ht1:w10.cell? ⟨T,1,none⟩=some (.string b):=(blk_cell hT10 1).trans rfl
       have ht2:w10.cell? ⟨T,2,none⟩=some (.string (y'.1.extract y'.2.1.toNat (y'.2.1+m).toNat)):=(blk_cell hT10 2).trans rfl
       have ht3:w10.cell? ⟨T,3,none⟩=some (.int .i64 r3):=(blk_cell hT10 3).trans rfl
       have hr0:w10.cell? ⟨R,0,none⟩=some (.int .i64 0):=(blk_cell hR10 0).trans rfl
       have hr1:w10.cell? ⟨R,1,none⟩=some (.string ⟨#[]⟩):=(blk_cell hR10 1).trans rfl
       have hr2:w10.cell? ⟨R,2,none⟩=some (.string ⟨#[]⟩):=(blk_cell hR10 2).trans rfl
       have hr3:w10.cell? ⟨R,3,none⟩=some (.int .i64 0):=(blk_cell hR10 3).trans rfl
       have hrf0:=blk_frozen hR10 0
       have hrf1:=blk_frozen hR10 1
       have hrf2:=blk_frozen hR10 2
       have hrf3:=blk_frozen hR10 3
       go_wp2
       repeat (go_quiet (fail);try go_wp2)
       have hR11:=blk_set (blk_set (blk_set (blk_set (blk_far (p:=⟨g,4,none⟩) (blk_far (p:=⟨g,1,none⟩) (show (w10.drewN nq).heap[R]? =_ from hR10) (Ne.symm hnel) (.int .i64 (y'.2.1+m))) (Ne.symm hnel) (.bool false)) 0 (.int .i64 6)) 1 (.string b)) 2 (.string (y'.1.extract y'.2.1.toNat (y'.2.1+m).toNat))) 3 (.int .i64 r3)
       have hv0:=blk_cell hR11 0
       have hv1:=blk_cell hR11 1
       have hv2:=blk_cell hR11 2
       have hv3:=blk_cell hR11 3
       simp at hv0 hv1 hv2 hv3
       (try simp only [Exit.inBlock,Exit.then])
       have hfk:finKind kw (kindAt 5) (y'.1.extract y'.2.1.toNat (y'.2.1+m).toNat)=6:=by simp [finKind,kindAt]
       rw [hfk]
       refine bodyPost_ret (v:= .agg #[.int .i64 6,.string b,.string (y'.1.extract y'.2.1.toNat (y'.2.1+m).toNat),.int .i64 r3]) ?res rfl ⟨rfl,?i1,?i2,?i3⟩
       case res=>
        clear hR11
        unfold results
        rw [show Tryz.f66.results= #[.cell 2 95] from rfl]
        go_simp
       case i1=>exact (((((((hI10'.out.drewN nq).set_1 _).set_4 _).far (p:=⟨R,0,none⟩) hnel _).far (p:=⟨R,1,none⟩) hnel _).far (p:=⟨R,2,none⟩) hnel _).far (p:=⟨R,3,none⟩) hnel _)
       case i2=>exact below_set (below_set (below_set (below_set (below_set (below_set (pw_below_drewN hB10 nq) hg10) hg10) hLR) hLR) hLR) hLR
       case i3=>exact keep_far (p:=⟨R,3,none⟩) (keep_far (p:=⟨R,2,none⟩) (keep_far (p:=⟨R,1,none⟩) (keep_far (p:=⟨R,0,none⟩) (KeepBut.set_ (KeepBut.set_ (keep_drewN hK10 nq) 1 _) 4 _) hLR' _) hLR' _) hLR' _) hLR' _
     · have hd0:decide (0<m)=false:=decide_eq_false hm0
       rw [if_neg hm0] at H
       go_wp2_with (go_at_call 124;go_loud (refine (lex_scanner_sign.calls k g y.1 y.2.1 y.2.2.1 s0_3 y.2.2.2 m y'.1 y'.2.1 y'.2.2.1 y'.2.2.2 w0 _ (HW.out.st.alloc _) (below_alloc HW.out.below _) hm').mono ?_;rintro e w8 ⟨rfl,hi8,hb8,hk8⟩;have HW8:=z0 (HW.out.step hi8 hb8 hk8 hne1 hnel hBg)))
       go_roundg 0
       case measure=>omega
       case rel=>exact ⟨y',rfl,rfl,⟨by omega⟩,⟨H⟩,HW8⟩
def LeSzN (w:World)(n:Nat):Prop:=w.heap.size≤n
theorem tok_none (k:Nat)(g:Nat)(s0_0:ByteArray)(s0_1:Int)(s0_2:Value)(s0_3:List ByteArray)(s0_4:Bool)(b r2:ByteArray)(r3:Int)(r4:Value)(r5:Bool)(w0 w:World)(hI:IsS125 w0 w g s0_0 s0_1 s0_2 s0_3 s0_4)(hB:Below w0.heap.size w0 w)(h:lex_scanner_before.f k s0_0 s0_1 s0_2 s0_3 s0_4=some (b,r2,r3,r4,r5))(hG_:Glob w0)(he:r3=(r2.size:Int)):
 Calls Tryz.prog 66 #[.pointer (some ⟨g,0,none⟩)] w fun e w'=>e= .returned (.agg #[.int .i64 0,.string b,.string ⟨#[]⟩,.int .i64 r3])∧IsS125 w0 w' g r2 r3 r4 s0_3 r5∧Below w0.heap.size w0 w'∧KeepBut w w' g none:=by
 have he':=z0 he
 clear he
 have HI0:=z0 hI
 have HK:=z0 (KeepBut.refl w g none)
 have HB:=z0 hB
 go_enter Tryz.func66,Tryz.ntmps66
 have hnel:g≠w.heap.size:=by obtain ⟨A3,c3,hb,_⟩:=hI;intro hx;subst hx;simp at hb
 go_wp2_with (go_at_call 118;go_loud (refine (lex_scanner_before.calls k g s0_0 s0_1 s0_2 s0_3 s0_4 b r2 r3 r4 r5 w0 _ (HI0.out.alloc _) (below_alloc HB.out _) h hG_).mono ?_;rintro e w5 ⟨rfl,hi,hb,hk⟩;have hi':=z0 hi;obtain ⟨AS,cS,HG,hg,HS⟩:=hi;have hc1:=cellS125_1 HG))
 obtain ⟨w6,hw6⟩:∃w6,w5.alloc (Obj.cells #[.int .i64 0,.string b,.string ⟨#[]⟩,.int .i64 r3] 95)=w6:=⟨_,rfl⟩
 rw [hw6]
 have hI6:IsS125 w0 w6 g r2 r3 r4 s0_3 r5:=hw6▸hi'.out.alloc _
 have hR5:=(hk.2 w.heap.size (by simp) (Ne.symm hnel) (by simp)).trans (blk_new w _)
 have hlt:w.heap.size<w5.heap.size:=by have h1:=hk.1;simp at h1;omega
 have hR6:w6.heap[w.heap.size]? =some (Obj.cells #[.int .i64 0,.string ⟨#[]⟩,.string ⟨#[]⟩,.int .i64 0] 95):=by rw [←hw6];exact (Below.heap_alloc w5 _ _ hlt).trans hR5
 have hT6:w6.heap[w5.heap.size]? =some (Obj.cells #[.int .i64 0,.string b,.string ⟨#[]⟩,.int .i64 r3] 95):=by rw [←hw6];exact blk_new w5 _
 have hB6:Below w0.heap.size w0 w6:=hw6▸below_alloc hb _
 have hne1:g≠w5.heap.size:=by intro hx;subst hx;simp at HG
 have hTR:w5.heap.size≠w.heap.size:=by omega
 have hLR:LeSzN w0 w.heap.size:=HB.out.size
 have hLR':LeSzN w w.heap.size:=Nat.le_refl _
 have hLT:LeSzN w w5.heap.size:=Nat.le_of_lt hlt
 have hLT0:LeSzN w0 w5.heap.size:=hb.size
 have hI6':=z0 hI6
 have hK6:Aside0 (KeepBut w w6 g none):=⟨hw6▸keep_alloc (KeepBut.trans (keep_alloc (KeepBut.refl w g none) _) hk (.inl rfl)) _⟩
 clear HG hc1
 obtain ⟨AS6,cS6,HG,hg6,HS6⟩:=hI6
 have hc0:=cellS125_0 HG
 have hc1:=cellS125_1 HG
 have hc4:=cellS125_4 HG
 have hf0:=blk_frozen HG 0
 have hf1:=blk_frozen HG 1
 have hdec:(r3==(r2.size:Int))=true:=(by simpa using he'.out)
 have hdec2:decide (r3=(r2.size:Int))=true:=(by simpa using he'.out)
 have ht0:w6.cell? ⟨w5.heap.size,0,none⟩=some (.int .i64 0):=(blk_cell hT6 0).trans rfl
 have ht1:w6.cell? ⟨w5.heap.size,1,none⟩=some (.string b):=(blk_cell hT6 1).trans rfl
 have ht2:w6.cell? ⟨w5.heap.size,2,none⟩=some (.string ⟨#[]⟩):=(blk_cell hT6 2).trans rfl
 have ht3:w6.cell? ⟨w5.heap.size,3,none⟩=some (.int .i64 r3):=(blk_cell hT6 3).trans rfl
 have hr0:w6.cell? ⟨w.heap.size,0,none⟩=some (.int .i64 0):=(blk_cell hR6 0).trans rfl
 have hr1:w6.cell? ⟨w.heap.size,1,none⟩=some (.string ⟨#[]⟩):=(blk_cell hR6 1).trans rfl
 have hr2:w6.cell? ⟨w.heap.size,2,none⟩=some (.string ⟨#[]⟩):=(blk_cell hR6 2).trans rfl
 have hr3:w6.cell? ⟨w.heap.size,3,none⟩=some (.int .i64 0):=(blk_cell hR6 3).trans rfl
 have hrf0:=blk_frozen hR6 0
 have hrf1:=blk_frozen hR6 1
 have hrf2:=blk_frozen hR6 2
 have hrf3:=blk_frozen hR6 3
 have hft0:=blk_frozen hT6 0
 generalize w5.heap.size=T at *
 generalize w.heap.size=R at *
 repeat (go_quiet (fail);try go_wp2)
 have hR11:=blk_set (blk_set (blk_set (blk_set (show (w6.drewN nq).heap[R]? =_ from hR6) 0 (.int .i64 0)) 1 (.string b)) 2 (.string ⟨#[]⟩)) 3 (.int .i64 r3)
 have hv0:=blk_cell hR11 0
 have hv1:=blk_cell hR11 1
 have hv2:=blk_cell hR11 2
 have hv3:=blk_cell hR11 3
 simp at hv0 hv1 hv2 hv3
 (try simp only [Exit.inBlock,Exit.then])
 refine bodyPost_ret (v:= .agg #[.int .i64 0,.string b,.string ⟨#[]⟩,.int .i64 r3]) ?res rfl ⟨rfl,?i1,?i2,?i3⟩
 case res=>
  clear hR11
  unfold results
  rw [show Tryz.f66.results= #[.cell 2 95] from rfl]
  go_simp
 case i1=>exact (((((hI6'.out.drewN nq).far (p:=⟨R,0,none⟩) hnel _).far (p:=⟨R,1,none⟩) hnel _).far (p:=⟨R,2,none⟩) hnel _).far (p:=⟨R,3,none⟩) hnel _)
 case i2=>exact below_set (below_set (below_set (below_set (pw_below_drewN hB6 nq) hLR) hLR) hLR) hLR
 case i3=>exact keep_far (p:=⟨R,3,none⟩) (keep_far (p:=⟨R,2,none⟩) (keep_far (p:=⟨R,1,none⟩) (keep_far (p:=⟨R,0,none⟩) (keep_drewN hK6.out nq) hLR' _) hLR' _) hLR' _) hLR' _
end Go.Proofs.YtolaiebjmhieiaaGreatDoor.OScan
end
section
namespace Go.Proofs.YtolaiebjmhieiaaGreatDoor.OScan
open Go.RowKit YtolaiebjmhieiaaGreatDoorW.PrintWords YtolaiebjmhieiaaGreatDoorW.PrintLast YtolaiebjmhieiaaGreatDoorW.PrintMore
theorem wr {a:Int}(h0: -9223372036854775808≤a)(h1:a≤9223372036854775807):wrap64 a=a:=by unfold wrap64;omega
def nx (s:ByteArray)(i:Int):Int:=if i≥(s.size:Int) then 0 else bt s i
def isL (a:Int):Bool:=(lex_isLetter.f a).getD false
def isD (a:Int):Bool:=(lex_isDigit.f a).getD false
theorem isL_eq (a:Int):lex_isLetter.f a=some (isL a):=by
 by_cases h1:a≥97<;>by_cases h2:a≤122<;>by_cases h3:a≥65<;>by_cases h4:a≤90<;>simp [isL,lex_isLetter.f,h1,h2,h3,h4]
theorem isD_eq (a:Int):lex_isDigit.f a=some (isD a):=by unfold isD lex_isDigit.f;repeat' split<;>rfl
theorem isL_0:isL 0=false:=by decide
theorem isD_0:isD 0=false:=by decide
theorem nx_past (s:ByteArray)(i:Int)(h:(s.size:Int)≤i):nx s i=0:=if_pos h
abbrev TryR:=Value→Option (Int × ByteArray × Int × Value × Bool)
def Tried (s:ByteArray)(at0:Int)(c:Bool)(B:Int)(r:TryR):Prop:=∃n,(∀v,r v=some (n,s,at0,v,c))∧0≤n∧n≤B
theorem Tried.ite {s:ByteArray}{at0:Int}{c:Bool}{B:Int}{P:Prop}[Decidable P]{f g:TryR}(h1:P→Tried s at0 c B f)(h2:¬P→Tried s at0 c B g):Tried s at0 c B (fun v=>if P then f v else g v):=by
 by_cases h:P
 · obtain ⟨n,hn,hr⟩:=h1 h;exact ⟨n,fun v=>(if_pos h).trans (hn v),hr⟩
 · obtain ⟨n,hn,hr⟩:=h2 h;exact ⟨n,fun v=>(if_neg h).trans (hn v),hr⟩
theorem Tried.here {s:ByteArray}{at0:Int}{c:Bool}{B n:Int}(h0:0≤n)(h1:n≤B):Tried s at0 c B (fun v=>some (n,s,at0,v,c)):=⟨n,fun _=>rfl,h0,h1⟩
theorem Tried.le {s:ByteArray}{at0:Int}{c:Bool}{B B':Int}{f:TryR}(h:Tried s at0 c B f)(hB:B≤B'):Tried s at0 c B' f:=by
 obtain ⟨n,hn,h0,h1⟩:=h;exact ⟨n,hn,h0,by omega⟩
theorem prefix_tot (a b:ByteArray):∃t,strings_HasPrefix.f a b=some t∧(t=true→b.size≤a.size):=by
 simp only [strings_HasPrefix.f,stringslite_HasPrefix.f]
 by_cases h:(a.size:Int)≥(b.size:Int)
 · rw [if_pos h,if_pos (by omega),if_pos (by omega)]
   exact ⟨_,rfl,fun _=>by omega⟩
 · rw [if_neg h]
   exact ⟨_,rfl,fun h=>by simp at h⟩
theorem suffix_tot (b:ByteArray)(x:UInt8)(hb:b.size≤1000000):∃t,strings_HasSuffix.f b (⟨#[x]⟩:ByteArray)=some t:=by
 simp only [strings_HasSuffix.f,stringslite_HasSuffix.f]
 have e1:((⟨#[x]⟩:ByteArray).size:Int)=1:=rfl
 rw [e1,wr (a:=(b.size:Int)-1) (by omega) (by omega)]
 by_cases hb1:(b.size:Int)≥1
 · rw [if_pos hb1,if_pos (by omega),if_pos (by omega)]
   exact ⟨_,rfl⟩
 · rw [if_neg hb1]
   exact ⟨_,rfl⟩
theorem trim_tot (b:ByteArray)(x:UInt8)(hb:b.size≤1000000):∃t,strings_TrimSuffix.f b (⟨#[x]⟩:ByteArray)=some t∧t.size≤b.size:=by
 simp only [strings_TrimSuffix.f,stringslite_TrimSuffix.f,stringslite_HasSuffix.f]
 have e1:((⟨#[x]⟩:ByteArray).size:Int)=1:=rfl
 rw [e1,wr (a:=(b.size:Int)-1) (by omega) (by omega)]
 by_cases hb1:(b.size:Int)≥1
 · rw [if_pos hb1,if_pos (by omega),if_pos (by omega)]
   simp only [Option.bind_some]
   split
   · rw [if_pos (by omega),if_pos (by omega)]
     exact ⟨_,rfl,by rw [ByteArray.size_extract];omega⟩
   · exact ⟨_,rfl,Nat.le_refl _⟩
 · rw [if_neg hb1]
   exact ⟨_,rfl,Nat.le_refl _⟩
theorem index_room:∀(s sub:List UInt8),0≤Lib.index s sub→Lib.index s sub+sub.length≤s.length
 |[],sub,h=>by
  unfold Lib.index at *
  split at h
  · rename_i he;simp at he;subst he;simp
  · omega
 |b::l,sub,h=>by
  unfold Lib.index at *
  split
  · rename_i hp
    have:=(List.isPrefixOf_iff_prefix.1 hp).length_le
    simp only [List.length_cons] at *;omega
  · rename_i hp
    rw [if_neg hp] at h
    split
    · rename_i he;rw [if_pos he] at h;omega
    · rename_i he
      have h1:=Lib.index_ge l sub
      have h2:Lib.index l sub≠ -1:=by simpa using he
      have:=index_room l sub (by omega)
      simp only [List.length_cons];omega
theorem prefix_two (a:ByteArray)(x y:UInt8)(h:strings_HasPrefix.f a ⟨#[x,y]⟩=some true):∃l,a.data.toList=x::y::l:=by
 simp only [strings_HasPrefix.f,stringslite_HasPrefix.f] at h
 have e1:((⟨#[x,y]⟩:ByteArray).size:Int)=2:=rfl
 have e2:(⟨#[x,y]⟩:ByteArray).toList=[x,y]:=by rw [Lib.toList_data]
 rw [e1,e2] at h
 by_cases hb:(a.size:Int)≥2
 · rw [if_pos hb,if_pos (by omega),if_pos (by omega)] at h
   simp only [Option.bind_some,Option.some.injEq,beq_iff_eq] at h
   rw [Lib.toList_data,Lib.Pa.extract_upto_list] at h
   have hl:a.data.toList.take 2=[x,y]:=h
   refine ⟨a.data.toList.drop 2,?_⟩
   rw [←List.take_append_drop 2 a.data.toList,hl];simp
 · rw [if_neg hb] at h
   simp at h
section
variable (s:ByteArray)(at0:Int)(sg:List ByteArray)(c:Bool)
theorem next_tot (hs:s.size≤1000000)(h0:0≤at0)(h1:at0≤s.size)(n:Int)(hn0:0≤n)(hn:n≤2000000):
 ∀v,lex_scanner_next.f s at0 v sg c n=some (nx s (at0+n),s,at0,v,c):=by
 intro v
 unfold lex_scanner_next.f nx
 rw [wr (by omega) (by omega)]
 split
 · rfl
 · rw [if_pos (by omega),if_pos (by omega)]
theorem rest_tot (hs:s.size≤1000000)(h0:0≤at0)(h1:at0≤s.size):∀v,lex_scanner_rest.f s at0 v sg c=some (s.extract at0.toNat s.size,s,at0,v,c):=by
 intro v;unfold lex_scanner_rest.f;rw [if_pos h0,if_pos (by omega)]
theorem name_l0 (hs:s.size≤1000000)(h0:0≤at0)(h1:at0≤s.size):∀(d k:Nat) (x:Int),0≤x→at0+x≤s.size→(s.size:Int)-(at0+x)≤d→d<k→Tried s at0 c (s.size-at0) (fun v=>lex_scanner_name.l0 k x s at0 v sg c)
 |d,0,_,_,_,_,h=>by omega
 |d,k+1,x,hx0,hx1,hd,hk=>by
  have hn:=next_tot s at0 sg c hs h0 h1 x hx0 (by omega)
  simp only [lex_scanner_name.l0,hn,Option.bind_some,isL_eq,isD_eq]
  by_cases hp:at0+x<s.size
  · obtain ⟨d',rfl⟩:∃d',d=d'+1:=⟨d-1,by omega⟩
    have ih:=name_l0 hs h0 h1 d' k (x+1) (by omega) (by omega) (by omega) (by omega)
    simp only [wr (a:=x+1) (by omega) (by omega)]
    exact Tried.ite (fun _=>ih) fun _=>Tried.ite (fun _=>ih) fun _=>Tried.here hx0 (by omega)
  · rw [nx_past s _ (by omega),isL_0,isD_0]
    simp only [Bool.false_eq_true,if_false]
    exact Tried.here hx0 (by omega)
theorem name_tot (hs:s.size≤1000000)(h0:0≤at0)(h1:at0≤s.size)(k:Nat)(hk:s.size<k):Tried s at0 c (s.size-at0) (fun v=>lex_scanner_name.f k s at0 v sg c):=by
 have hn:=next_tot s at0 sg c hs h0 h1 0 (by omega) (by omega)
 simp only [lex_scanner_name.f,hn,Option.bind_some,isL_eq]
 exact Tried.ite (fun _=>name_l0 s at0 sg c hs h0 h1 s.size k 0 (by omega) (by omega) (by omega) hk) fun _=>Tried.here (by omega) (by omega)
theorem number_l0 (hs:s.size≤1000000)(h0:0≤at0)(h1:at0≤s.size):∀(d k:Nat) (x:Int),1≤x→at0+x≤s.size→(s.size:Int)-(at0+x)≤d→d<k→Tried s at0 c (s.size-at0) (fun v=>lex_scanner_number.l0 k x s at0 v sg c)
 |d,0,_,_,_,_,h=>by omega
 |d,k+1,x,hx0,hx1,hd,hk=>by
  have hn:=next_tot s at0 sg c hs h0 h1 x (by omega) (by omega)
  have hm:=next_tot s at0 sg c hs h0 h1 (x-1) (by omega) (by omega)
  simp only [lex_scanner_number.l0,wr (a:=x-1) (by omega) (by omega),wr (a:=x+1) (by omega) (by omega),hn,hm,Option.bind_some,isL_eq,isD_eq]
  by_cases hp:at0+x<s.size
  · obtain ⟨d',rfl⟩:∃d',d=d'+1:=⟨d-1,by omega⟩
    have ih:=number_l0 hs h0 h1 d' k (x+1) (by omega) (by omega) (by omega) (by omega)
    have me:Tried s at0 c (s.size-at0) (fun v=>some (x,s,at0,v,c)):=Tried.here (by omega) (by omega)
    repeat' (first|exact ih|exact me|(refine Tried.ite (fun _=> ?_) (fun _=> ?_)))
  · rw [nx_past s _ (by omega),isL_0,isD_0]
    have z1:¬((0:Int)=46):=by decide
    have z2:¬((0:Int)=43):=by decide
    have z3:¬((0:Int)=45):=by decide
    simp only [Bool.false_eq_true,if_false,z1,z2,z3]
    exact Tried.here (by omega) (by omega)
theorem number_j0 (hs:s.size≤1000000)(h0:0≤at0)(h1:at0≤s.size)(k:Nat)(hk:s.size+1<k)(b:Bool)(hb:b=false→at0<s.size):Tried s at0 c (s.size-at0) (fun v=>lex_scanner_number.j0 k b s at0 v sg c):=by
 obtain ⟨k,rfl⟩:∃m,k=m+1:=⟨k-1,by omega⟩
 simp only [lex_scanner_number.j0]
 refine Tried.ite (fun _=>Tried.here (by omega) (by omega)) fun hb'=> ?_
 have:=hb (by simpa using hb')
 exact number_l0 s at0 sg c hs h0 h1 s.size k 1 (by omega) (by omega) (by omega) (by omega)
theorem number_tot (hs:s.size≤1000000)(h0:0≤at0)(h1:at0≤s.size)(k:Nat)(hk:s.size+1<k):Tried s at0 c (s.size-at0) (fun v=>lex_scanner_number.f k s at0 v sg c):=by
 have hn:=next_tot s at0 sg c hs h0 h1 0 (by omega) (by omega)
 have hm:=next_tot s at0 sg c hs h0 h1 1 (by omega) (by omega)
 simp only [lex_scanner_number.f,hn,hm,Option.bind_some,isD_eq]
 have hp:isD (nx s (at0+0))=true∨nx s (at0+0)=46→at0<s.size:=fun h=>by
  by_cases hp:at0<s.size
  · exact hp
  · rw [nx_past s _ (by omega),isD_0] at h;simp at h
 exact Tried.ite (fun h=>number_j0 s at0 sg c hs h0 h1 k hk _ fun _=>hp (.inl h)) fun _=>
  Tried.ite (fun h=>number_j0 s at0 sg c hs h0 h1 k hk _ fun _=>hp (.inr h)) fun _=>number_j0 s at0 sg c hs h0 h1 k hk _ (by simp)
theorem quoted_l0 (hs:s.size≤1000000)(h0:0≤at0)(h1:at0≤s.size)(q:Int)(hq:q≠0):∀(d k:Nat) (x:Int),0≤x→x≤1500000→(s.size:Int)-(at0+x)≤d→d<k→Tried s at0 c (s.size-at0) (fun v=>lex_scanner_quoted.l0 k q x s at0 v sg c)
 |d,0,_,_,_,_,h=>by omega
 |d,k+1,x,hx0,hx1,hd,hk=>by
  have hn:=next_tot s at0 sg c hs h0 h1 x hx0 (by omega)
  have hm:=next_tot s at0 sg c hs h0 h1 (x+1) (by omega) (by omega)
  simp only [lex_scanner_quoted.l0,wr (a:=at0+x) (by omega) (by omega),wr (a:=x+1) (by omega) (by omega),wr (a:=x+1+1) (by omega) (by omega),hn,hm,Option.bind_some]
  have z:Tried s at0 c (s.size-at0) (fun v=>some (0,s,at0,v,c)):=Tried.here (by omega) (by omega)
  refine Tried.ite (fun hp=> ?_) fun _=>z
  have ih:=quoted_l0 hs h0 h1 q hq (d-1) k (x+1) (by omega) (by omega) (by omega) (by omega)
  have ih2:=quoted_l0 hs h0 h1 q hq (d-1) k (x+1+1) (by omega) (by omega) (by omega) (by omega)
  have me:Tried s at0 c (s.size-at0) (fun v=>some (x+1,s,at0,v,c)):=Tried.here (by omega) (by omega)
  repeat' (first|exact me|exact z|exact ih|exact ih2|(refine Tried.ite (fun _=> ?_) (fun _=> ?_)))
theorem quoted_tot (hs:s.size≤1000000)(h0:0≤at0)(h1:at0≤s.size)(k:Nat)(hk:s.size<k)(q:Int)(hq:q≠0):Tried s at0 c (s.size-at0) (fun v=>lex_scanner_quoted.f k s at0 v sg c q):=by
 have hn:=next_tot s at0 sg c hs h0 h1 0 (by omega) (by omega)
 simp only [lex_scanner_quoted.f,hn,Option.bind_some]
 exact Tried.ite (fun _=>quoted_l0 s at0 sg c hs h0 h1 q hq s.size k 1 (by omega) (by omega) (by omega) hk) fun _=>Tried.here (by omega) (by omega)
theorem char_tot (hs:s.size≤1000000)(h0:0≤at0)(h1:at0≤s.size)(k:Nat)(hk:s.size<k):Tried s at0 c (s.size-at0) (fun v=>lex_scanner_char.f k s at0 v sg c):=by
 obtain ⟨n,h,hn⟩:=quoted_tot s at0 sg c hs h0 h1 k hk 39 (by decide)
 exact ⟨n,fun v=>by simp only [lex_scanner_char.f,h,Option.bind_some],hn⟩
theorem text_tot (hs:s.size≤1000000)(h0:0≤at0)(h1:at0≤s.size)(k:Nat)(hk:s.size<k):Tried s at0 c (s.size-at0) (fun v=>lex_scanner_text.f k s at0 v sg c):=by
 obtain ⟨n,h,hn⟩:=quoted_tot s at0 sg c hs h0 h1 k hk 34 (by decide)
 exact ⟨n,fun v=>by simp only [lex_scanner_text.f,h,Option.bind_some],hn⟩
theorem line_l0 (hs_:s.size≤1000000)(h0_:0≤at0)(h1_:at0≤s.size):∀(d k:Nat) (r:ByteArray) (x:Int),r.size≤1000000→0≤x→x≤r.size→(r.size:Int)-x≤d→d<k→Tried s at0 c r.size (fun v=>lex_scanner_line.l0 k r x s at0 v sg c)
 |d,0,_,_,_,_,_,_,h=>by omega
 |d,k+1,r,x,hr,hx0,hx1,hd,hk=>by
  simp only [lex_scanner_line.l0,if_pos hx0,if_pos hx1,strings_IndexByte.f,Option.bind_some]
  have hg:=Lib.indexByte_ge (r.extract x.toNat r.size).data.toList (10:Int).toNat.toUInt8
  generalize hi:Lib.indexByte (r.extract x.toNat r.size).data.toList (10:Int).toNat.toUInt8=t at *
  refine Tried.ite (fun _=>Tried.here (by omega) (Int.le_refl _)) fun hneg=> ?_
  obtain ⟨o,rfl⟩:∃o:Nat,t=o:=⟨t.toNat,by omega⟩
  have h1:=(Lib.indexByte_some hi).1
  have hlt:o<(r.extract x.toNat r.size).data.toList.length:=by
   by_cases hq:o<(r.extract x.toNat r.size).data.toList.length
   · exact hq
   · rw [List.getElem?_eq_none (by omega)] at h1;simp at h1
  rw [Lib.extract_to_end,List.length_drop,←Lib.size_eq] at hlt
  have p1:0≤x+(o:Int):=by omega
  have p2:x+(o:Int)≤r.size:=by omega
  have hsz:(r.extract 0 (x+o).toNat).size≤(x+o).toNat:=by rw [ByteArray.size_extract];omega
  obtain ⟨t1,ht1,hl1⟩:=trim_tot (r.extract 0 (x+o).toNat) 13 (by omega)
  obtain ⟨t2,ht2⟩:=suffix_tot (r.extract 0 (x+o).toNat) 92 (by omega)
  obtain ⟨t3,ht3⟩:=suffix_tot t1 92 (by omega)
  simp only [wr (a:=x+o) (by omega) (by omega),wr (a:=x+o+1) (by omega) (by omega),if_pos p1,if_pos p2,ht1,ht2,ht3,Option.bind_some]
  have ih:=line_l0 hs_ h0_ h1_ (d-1) k r (x+o+1) hr (by omega) (by omega) (by omega) (by omega)
  exact Tried.ite (fun _=>ih) fun _=>Tried.ite (fun _=>ih) fun _=>Tried.here (by omega) (by omega)
theorem line_tot (hs:s.size≤1000000)(h0:0≤at0)(h1:at0≤s.size)(k:Nat)(hk:s.size+1<k):Tried s at0 c (s.size-at0) (fun v=>lex_scanner_line.f k s at0 v sg c):=by
 obtain ⟨k,rfl⟩:∃m,k=m+1:=⟨k-1,by omega⟩
 have hn:=next_tot s at0 sg c hs h0 h1 0 (by omega) (by omega)
 have hr:=rest_tot s at0 sg c hs h0 h1
 have hsz:(s.extract at0.toNat s.size).size=s.size-at0.toNat:=by rw [ByteArray.size_extract];omega
 have key:∀b:Bool,Tried s at0 c (s.size-at0) (fun v=>lex_scanner_line.j0 (k+1) b s at0 v sg c):=fun b=>by
  simp only [lex_scanner_line.j0,hr,Option.bind_some]
  exact Tried.ite (fun _=>Tried.here (by omega) (by omega)) fun _=>(line_l0 s at0 sg c hs h0 h1 s.size k (s.extract at0.toNat s.size) 0 (by omega) (by omega) (by omega) (by omega) (by omega)).le (by omega)
 simp only [lex_scanner_line.f,hn,Option.bind_some]
 exact Tried.ite (fun _=>key _) fun _=>key _
theorem sign_l0 (hs:s.size≤1000000)(h0:0≤at0)(h1:at0≤s.size):∀(d k:Nat) (x j:Int),0≤x→at0+x≤s.size→0≤j→sg.length≤1000000→(sg.length:Int)-j≤d→d<k→Tried s at0 c (s.size-at0) (fun v=>lex_scanner_sign.l0 k x sg (sg.length:Int) j s at0 v sg c)
 |d,0,_,_,_,_,_,_,_,h=>by omega
 |d,k+1,x,j,hx0,hx1,hj0,hj1,hd,hk=>by
  have hr:=rest_tot s at0 sg c hs h0 h1
  have hsz:(s.extract at0.toNat s.size).size=s.size-at0.toNat:=by rw [ByteArray.size_extract];omega
  obtain ⟨t,ht,hle⟩:=prefix_tot (s.extract at0.toNat s.size) (rdOf ByteArray.empty sg j)
  simp only [lex_scanner_sign.l0,hr,ht,Option.bind_some]
  refine Tried.ite (fun hlt=> ?_) fun _=>Tried.here hx0 (by omega)
  simp only [if_pos hj0,if_pos hlt,wr (a:=j+1) (by omega) (by omega)]
  have ih:=fun x hx0 hx1=>sign_l0 hs h0 h1 (d-1) k x (j+1) hx0 hx1 (by omega) hj1 (by omega) (by omega)
  refine Tried.ite (fun _=>Tried.ite (fun hb=> ?_) fun _=>ih _ hx0 hx1) fun _=>ih _ hx0 hx1
  have:=hle hb
  exact ih _ (by omega) (by omega)
theorem sign_tot (hs:s.size≤1000000)(h0:0≤at0)(h1:at0≤s.size)(k:Nat)(hl:sg.length≤1000000)(hk:sg.length<k):Tried s at0 c (s.size-at0) (fun v=>lex_scanner_sign.f k s at0 v sg c):=
 sign_l0 s at0 sg c hs h0 h1 sg.length k 0 0 (by omega) (by omega) (by omega) hl (by omega) hk
theorem comment_tot (hs:s.size≤1000000)(h0:0≤at0)(h1:at0≤s.size):∃r:Bool × Int × Bool,(∀v,lex_scanner_comment.f s at0 v sg c=some (r.1,s,r.2.1,v,r.2.2))∧(r.1=false→r.2.1=at0∧r.2.2=c)∧(r.1=true→at0<r.2.1∧r.2.1≤s.size):=by
 have hr:=rest_tot s at0 sg c hs h0 h1
 have hsz:(s.extract at0.toNat s.size).size=s.size-at0.toNat:=by rw [ByteArray.size_extract];omega
 simp only [lex_scanner_comment.f,hr,Option.bind_some]
 generalize s.extract at0.toNat s.size=R at *
 have hRl:R.data.toList.length=R.size:=by rw [←Lib.size_eq]
 obtain ⟨t,ht,hle⟩:=prefix_tot R ⟨#[47,47]⟩
 simp only [ht,Option.bind_some]
 cases t with
 |true=>
  obtain ⟨l,hl⟩:=prefix_two R 47 47 ht
  have hsz2:2≤R.size:=by rw [←hRl,hl];simp
  simp only [strings_IndexByte.f,Option.bind_some,if_true]
  have hg:=Lib.indexByte_ge R.data.toList (10:Int).toNat.toUInt8
  have hpos:Lib.indexByte R.data.toList (10:Int).toNat.toUInt8≠0:=by
   rw [hl];unfold Lib.indexByte
   have:((47:UInt8)==(10:Int).toNat.toUInt8)=false:=by decide
   rw [this];simp only [Bool.false_eq_true,if_false]
   have:=Lib.indexByte_ge (47::l) (10:Int).toNat.toUInt8
   split
   · omega
   · rename_i hne;have:Lib.indexByte (47::l) (10:Int).toNat.toUInt8≠ -1:=by simpa using hne
     omega
  generalize hi:Lib.indexByte R.data.toList (10:Int).toNat.toUInt8=t at *
  by_cases hneg:t<0
  · exact ⟨(true,wrap64 (at0+R.size),c),fun v=>by rw [if_pos hneg],by simp,fun _=>by simp only;rw [wr (by omega) (by omega)];omega⟩
  · obtain ⟨o,rfl⟩:∃o:Nat,t=o:=⟨t.toNat,by omega⟩
    have h1':=(Lib.indexByte_some hi).1
    have hlt:o<R.data.toList.length:=by
     by_cases hq:o<R.data.toList.length
     · exact hq
     · rw [List.getElem?_eq_none (by omega)] at h1';simp at h1'
    exact ⟨(true,wrap64 (at0+o),c),fun v=>by rw [if_neg hneg],by simp,fun _=>by simp only;rw [wr (by omega) (by omega)];omega⟩
 |false=>
  simp only [Bool.false_eq_true,if_false]
  obtain ⟨t,ht,hle⟩:=prefix_tot R ⟨#[47,42]⟩
  simp only [ht,Option.bind_some]
  cases t with
  |false=>exact ⟨(false,at0,c),fun v=>rfl,by simp,by simp⟩
  |true=>
   have hsz2:2≤R.size:=hle rfl
   have hx2:(R.extract 2 R.size).size=R.size-2:=by rw [ByteArray.size_extract];omega
   have hxl:(R.extract 2 R.size).data.toList.length=R.size-2:=by rw [←Lib.size_eq,hx2]
   have q1:(2:Int)≤R.size:=by omega
   have q2:(R.extract 2 R.size).size<4294967281:=by omega
   simp only [if_true,if_pos q1,strings_Index.f,if_pos q2,Option.bind_some]
   have hg:=Lib.index_ge (R.extract 2 R.size).data.toList (⟨#[42,47]⟩:ByteArray).data.toList
   have hroom:=index_room (R.extract 2 R.size).data.toList (⟨#[42,47]⟩:ByteArray).data.toList
   have e2:((⟨#[42,47]⟩:ByteArray).data.toList.length:Int)=2:=rfl
   generalize Lib.index (R.extract 2 R.size).data.toList (⟨#[42,47]⟩:ByteArray).data.toList=t at *
   have ht1:t≤R.size:=by
    by_cases ht0:0≤t
    · have:=hroom ht0;omega
    · omega
   simp only [wr (a:=t+4) (by omega) (by omega),wr (a:=at0+R.size) (by omega) (by omega),wr (a:=at0+(t+4)) (by omega) (by omega)]
   have hct:∀b x:ByteArray,b.size≤1000000→∃r,strings_Contains.f b x=some r:=fun b x hb=>⟨_,by unfold strings_Contains.f;rw [if_pos (by omega)]⟩
   obtain ⟨r,hcr⟩:=hct R ⟨#[10]⟩ (by omega)
   by_cases h4:t+4<4
   · simp only [if_pos h4]
     cases c with
     |true=>exact ⟨(true,at0+R.size,true),fun v=>rfl,by simp,fun _=>by simp only;omega⟩
     |false=>
      have q3:(0:Int)≤R.size:=by omega
      simp only [Bool.false_eq_true,if_false,if_pos q3,if_pos (Int.le_refl (R.size:Int)),hcr,Option.bind_some]
      exact ⟨(true,at0+R.size,r),fun v=>rfl,by simp,fun _=>by simp only;omega⟩
   · have:=hroom (by omega)
     simp only [if_neg h4]
     cases c with
     |true=>exact ⟨(true,at0+(t+4),true),fun v=>rfl,by simp,fun _=>by simp only;omega⟩
     |false=>
      obtain ⟨r,hr⟩:=hct (R.extract 0 (t+4).toNat) ⟨#[10]⟩ (by rw [ByteArray.size_extract];omega)
      have q3:(0:Int)≤t+4:=by omega
      have q4:t+4≤(R.size:Int):=by omega
      simp only [Bool.false_eq_true,if_false,if_pos q3,if_pos q4,hr,Option.bind_some]
      exact ⟨(true,at0+(t+4),r),fun v=>rfl,by simp,fun _=>by simp only;omega⟩
end
abbrev PasR:=Value→Option (ByteArray × ByteArray × Int × Value × Bool)
def Passed (s:ByteArray)(at0:Int)(r:PasR):Prop:=∃b at1 c1,(∀v,r v=some (b,s,at1,v,c1))∧at0≤at1∧at1≤(s.size:Int)∧b.size≤s.size
theorem Passed.le {s:ByteArray}{a b:Int}{r:PasR}(h:Passed s b r)(hab:a≤b):Passed s a r:=by
 obtain ⟨x,y,z,h1,h2,h3⟩:=h
 exact ⟨x,y,z,h1,by omega,h3⟩
theorem Passed.ite {s:ByteArray}{a:Int}{P:Prop}[Decidable P]{f g:PasR}(h1:P→Passed s a f)(h2:¬P→Passed s a g):Passed s a (fun v=>if P then f v else g v):=by
 by_cases h:P
 · obtain ⟨x,y,z,hn,hr⟩:=h1 h;exact ⟨x,y,z,fun v=>(if_pos h).trans (hn v),hr⟩
 · obtain ⟨x,y,z,hn,hr⟩:=h2 h;exact ⟨x,y,z,fun v=>(if_neg h).trans (hn v),hr⟩
theorem before_l0 (s:ByteArray)(sg:List ByteArray)(hs:s.size≤1000000)(from0:Int)(hf:0≤from0):∀(d:Nat) (at0:Int) (c:Bool) (k:Nat),from0≤at0→at0≤s.size→(s.size:Int)-at0≤d→5*d+5<k→Passed s at0 (fun v=>lex_scanner_before.l0 k from0 s at0 v sg c)
 |d,at0,c,0,_,_,_,h=>by omega
 |d,at0,c,k+1,h0,h1,hd,hk=>by
  simp only [lex_scanner_before.l0]
  refine Passed.ite (fun hlt=> ?_) fun hge=> ?_
  · obtain ⟨d,rfl⟩:∃e,d=e+1:=⟨d-1,by omega⟩
    have ih:∀(at1:Int) (c1:Bool) (k:Nat),at0<at1→at1≤s.size→5*d+5<k→Passed s at0 (fun v=>lex_scanner_before.l0 k from0 s at1 v sg c1):=fun at1 c1 k ha hb hk=>(before_l0 s sg hs from0 hf d at1 c1 k (by omega) hb (by omega) hk).le (by omega)
    have hn1:=next_tot s at0 sg c hs (by omega) h1 1 (by omega) (by omega)
    have hn2:=next_tot s at0 sg c hs (by omega) h1 2 (by omega) (by omega)
    have w1:=wr (a:=at0+1) (by omega) (by omega)
    have w2:=wr (a:=at0+2) (by omega) (by omega)
    have w3:=wr (a:=at0+3) (by omega) (by omega)
    have j4:∀k b,5*d+6<k→(b=true→at0+3≤s.size)→Passed s at0 (fun v=>lex_scanner_before.j4 k from0 b s at0 v sg c):=fun k b hk hb=>by
     obtain ⟨k,rfl⟩:∃m,k=m+1:=⟨k-1,by omega⟩
     obtain ⟨⟨r1,r2,r3⟩,hr,hra,hrb⟩:=comment_tot s at0 sg c hs (by omega) h1
     simp only [lex_scanner_before.j4,w3,hr,Option.bind_some]
     refine Passed.ite (fun h=>ih _ _ _ (by omega) (hb h) (by omega)) fun _=>Passed.ite (fun h=> ?_) fun h=> ?_
     · have:=hrb h;exact ih _ _ _ this.1 this.2 (by omega)
     · obtain ⟨ha,hc⟩:=hra (by simpa using h)
       simp only at ha hc
       subst ha
       simp only [if_pos hf,if_pos h0,if_pos h1]
       exact ⟨_,_,_,fun v=>rfl,Int.le_refl _,h1,by rw [ByteArray.size_extract];omega⟩
    have past:∀i ch,ch≠0→nx s (at0+i)=ch→at0+i<s.size:=fun i ch hne h=>by
     by_cases hp:at0+i<s.size
     · exact hp
     · rw [nx_past s _ (by omega)] at h;exact absurd h.symm hne
    have j3:∀k x4 b,5*d+7<k→(b=true→at0+2≤s.size)→Passed s at0 (fun v=>lex_scanner_before.j3 k from0 x4 b s at0 v sg c):=fun k x4 b hk hb=>by
     obtain ⟨k,rfl⟩:∃m,k=m+1:=⟨k-1,by omega⟩
     simp only [lex_scanner_before.j3,w2,hn1,hn2,Option.bind_some]
     refine Passed.ite (fun h=>ih _ _ _ (by omega) (hb h) (by omega)) fun _=>Passed.ite (fun _=>Passed.ite (fun _=> ?_) fun _=> ?_) fun _=> ?_
     · refine j4 k _ (by omega) fun h=> ?_
       have:=past 2 10 (by decide) (by simpa using h)
       omega
     · exact j4 k _ (by omega) (by simp)
     · exact j4 k _ (by omega) (by simp)
    have j2:∀k x4 b,5*d+8<k→Passed s at0 (fun v=>lex_scanner_before.j2 k from0 x4 b s at0 v sg c):=fun k x4 b hk=>by
     obtain ⟨k,rfl⟩:∃m,k=m+1:=⟨k-1,by omega⟩
     simp only [lex_scanner_before.j2,w1,hn1,Option.bind_some]
     refine Passed.ite (fun _=>ih _ _ _ (by omega) (by omega) (by omega)) fun _=>Passed.ite (fun _=> ?_) fun _=> ?_
     · refine j3 k _ _ (by omega) fun h=> ?_
       have:=past 1 10 (by decide) (by simpa using h)
       omega
     · exact j3 k _ _ (by omega) (by simp)
    have j1:∀k x4 b,5*d+9<k→Passed s at0 (fun v=>lex_scanner_before.j1 k from0 x4 b s at0 v sg c):=fun k x4 b hk=>by
     obtain ⟨k,rfl⟩:∃m,k=m+1:=⟨k-1,by omega⟩
     simp only [lex_scanner_before.j1,w1]
     exact Passed.ite (fun _=>ih _ _ _ (by omega) (by omega) (by omega)) fun _=>Passed.ite (fun _=>j2 k _ _ (by omega)) fun _=>Passed.ite (fun _=>j2 k _ _ (by omega)) fun _=>j2 k _ _ (by omega)
    have h00:0≤at0:=by omega
    simp only [if_pos h00,w1]
    exact Passed.ite (fun _=>ih _ _ _ (by omega) (by omega) (by omega)) fun _=>Passed.ite (fun _=>j1 k _ _ (by omega)) fun _=>j1 k _ _ (by omega)
  · have q:from0≤(s.size:Int):=by omega
    simp only [if_pos hf,if_pos q]
    exact ⟨_,_,_,fun v=>rfl,Int.le_refl _,h1,by rw [ByteArray.size_extract];omega⟩
theorem before_tot (s:ByteArray)(at0:Int)(sg:List ByteArray)(c:Bool)(hs:s.size≤1000000)(h0:0≤at0)(h1:at0≤s.size)(k:Nat)(hk:5*s.size+5<k):Passed s at0 (fun v=>lex_scanner_before.f k s at0 v sg c):=
 before_l0 s sg hs at0 h0 s.size at0 c k (Int.le_refl _) h1 (by omega) hk
theorem tryAt_tot (s:ByteArray)(at0:Int)(sg:List ByteArray)(c:Bool)(hs:s.size≤1000000)(h0:0≤at0)(h1:at0≤s.size)(hl:sg.length≤1000000)(k:Nat)(hk:s.size+1<k)(hk2:sg.length<k)(j:Nat):
 Tried s at0 c (s.size-at0) (fun v=>(tryAt k sg j (s,at0,v,c))):=by
 match j with
 |0=>exact line_tot s at0 sg c hs h0 h1 k hk
 |1=>exact name_tot s at0 sg c hs h0 h1 k (by omega)
 |2=>exact number_tot s at0 sg c hs h0 h1 k hk
 |3=>exact char_tot s at0 sg c hs h0 h1 k (by omega)
 |4=>exact text_tot s at0 sg c hs h0 h1 k (by omega)
 |n+5=>exact sign_tot s at0 sg c hs h0 h1 k hl hk2
theorem tries_tot (s:ByteArray)(at0:Int)(sg:List ByteArray)(c:Bool)(hs:s.size≤1000000)(h0:0≤at0)(h1:at0<s.size)(hl:sg.length≤1000000)(k:Nat)(hk:s.size+1<k)(hk2:sg.length<k):
 ∀(f j:Nat),∃n kd:Int,(∀v,tries k sg f j (s,at0,v,c)=some (n,kd,(s,at0,v,c)))∧1≤n∧at0+n≤s.size∧1≤kd
 |0,j=>⟨1,8,fun v=>rfl,by omega,by omega,by omega⟩
 |f+1,j=>by
  obtain ⟨m,hm,hm0,hm1⟩:=tryAt_tot s at0 sg c hs h0 (by omega) hl k hk hk2 j
  have hm:∀v,tryAt k sg j (s,at0,v,c)=some (m,s,at0,v,c):=hm
  by_cases hp:0<m
  · refine ⟨m,kindAt j,fun v=> ?_,by omega,by omega,?_⟩
    · rw [tries_succ,hm v];simp only [Option.bind_some];rw [if_pos hp]
    · unfold kindAt;split<;>decide
  · obtain ⟨n,kd,h,hr⟩:=tries_tot s at0 sg c hs h0 h1 hl k hk hk2 f (j+1)
    exact ⟨n,kd,fun v=>by rw [tries_succ,hm v];simp only [Option.bind_some];rw [if_neg hp];exact h v,hr⟩
abbrev Tk:=Int × ByteArray × ByteArray × Int
def K0 (s:ByteArray)(sg:List ByteArray):Nat:=5*s.size+sg.length+100
def tokD (kw sg:List ByteArray)(s:ByteArray)(at0:Int)(c:Bool):Tk × Int × Bool:=
 match lex_scanner_before.f (K0 s sg) s at0 .nilIface sg c with
 |none=>((0,⟨#[]⟩,⟨#[]⟩,at0),at0,c)
 |some (b,_,at1,_,c1)=>
  if at1=s.size then ((0,b,⟨#[]⟩,at1),at1,c1) else
  match tries (K0 s sg) sg 6 0 (s,at1,.nilIface,c1) with
  |none=>((0,b,⟨#[]⟩,at1),at1,c1)
  |some (n,kd,_)=>((finKind kw kd (s.extract at1.toNat (at1+n).toNat),b,s.extract at1.toNat (at1+n).toNat,at1),at1+n,false)
def toksD (kw sg:List ByteArray)(s:ByteArray):Nat→Int→Bool→List Tk
 |0,_,_=>[]
 |f+1,at0,c=>let r:=tokD kw sg s at0 c;if r.1.1=0 then [r.1] else r.1::toksD kw sg s f r.2.1 r.2.2
def tkV (t:Tk):Value:= .agg #[.int .i64 t.1,.string t.2.1,.string t.2.2.1,.int .i64 t.2.2.2]
theorem token_any (kw sg:List ByteArray)(s:ByteArray)(at0:Int)(v:Value)(c:Bool)(g:Nat)(w0 w:World)(hI:IsS125 w0 w g s at0 v sg c)(hB:Below w0.heap.size w0 w)(hG_:Glob w0)(hM:KwMap w v kw)
 (hs:s.size≤1000000) (h0:0≤at0) (h1:at0≤s.size) (hl:sg.length≤1000000):
 Calls Tryz.prog 66 #[.pointer (some ⟨g,0,none⟩)] w fun e w'=>e= .returned (tkV (tokD kw sg s at0 c).1)∧IsS125 w0 w' g s (tokD kw sg s at0 c).2.1 v sg (tokD kw sg s at0 c).2.2∧Below w0.heap.size w0 w'∧KeepBut w w' g none:=by
 obtain ⟨b,at1,c1,hb,hb0,hb1,hbs⟩:=before_tot s at0 sg c hs h0 h1 (K0 s sg) (by unfold K0;omega)
 have hb:∀v,lex_scanner_before.f (K0 s sg) s at0 v sg c=some (b,s,at1,v,c1):=hb
 by_cases he:at1=(s.size:Int)
 · have:=tok_none (K0 s sg) g s at0 v sg c b s at1 v c1 w0 w hI hB (hb v) hG_ he
   have hd:tokD kw sg s at0 c=((0,b,⟨#[]⟩,at1),at1,c1):=by unfold tokD;rw [hb .nilIface];simp only;rw [if_pos he]
   rw [hd];exact this
 · obtain ⟨n,kd,ht,hn,hn1,hk1⟩:=tries_tot s at1 sg c1 hs (by omega) (by omega) hl (K0 s sg) (by unfold K0;omega) (by unfold K0;omega) 6 0
   have hd:tokD kw sg s at0 c=((finKind kw kd (s.extract at1.toNat (at1+n).toNat),b,s.extract at1.toNat (at1+n).toNat,at1),at1+n,false):=by
    unfold tokD;rw [hb .nilIface];simp only;rw [if_neg he,ht .nilIface]
   have:=tok_end (K0 s sg) g s at0 v sg c b s at1 v c1 w0 w hI hB (hb v) hG_ he n kd (s,at1,v,c1) (ht v) (by simp only;omega) (by simp only;omega) (by omega) (by simp only;omega) kw rfl hM
   rw [hd];exact this
theorem tokD_place (kw sg:List ByteArray)(s:ByteArray)(at0:Int)(c:Bool)(hs:s.size≤1000000)(h0:0≤at0)(h1:at0≤s.size)(hl:sg.length≤1000000):
 (tokD kw sg s at0 c).2.1≤s.size∧at0≤(tokD kw sg s at0 c).2.1∧((tokD kw sg s at0 c).1.1≠0→at0<(tokD kw sg s at0 c).2.1)∧(tokD kw sg s at0 c).1.2.1.size≤s.size∧(tokD kw sg s at0 c).1.2.2.1.size≤s.size:=by
 obtain ⟨b,at1,c1,hb,hb0,hb1,hbs⟩:=before_tot s at0 sg c hs h0 h1 (K0 s sg) (by unfold K0;omega)
 have hb:∀v,lex_scanner_before.f (K0 s sg) s at0 v sg c=some (b,s,at1,v,c1):=hb
 by_cases he:at1=(s.size:Int)
 · have hd:tokD kw sg s at0 c=((0,b,⟨#[]⟩,at1),at1,c1):=by unfold tokD;rw [hb .nilIface];simp only;rw [if_pos he]
   rw [hd];exact ⟨hb1,hb0,by simp,hbs,Nat.zero_le _⟩
 · obtain ⟨n,kd,ht,hn,hn1,hk1⟩:=tries_tot s at1 sg c1 hs (by omega) (by omega) hl (K0 s sg) (by unfold K0;omega) (by unfold K0;omega) 6 0
   have hd:tokD kw sg s at0 c=((finKind kw kd (s.extract at1.toNat (at1+n).toNat),b,s.extract at1.toNat (at1+n).toNat,at1),at1+n,false):=by
    unfold tokD;rw [hb .nilIface];simp only;rw [if_neg he,ht .nilIface]
   rw [hd];exact ⟨hn1,by simp only;omega,fun _=>by simp only;omega,hbs,by simp only;rw [ByteArray.size_extract];omega⟩
def sfx (s:ByteArray)(i:Int):List UInt8:=s.data.toList.drop i.toNat
def hd:List UInt8→Int
 |[]=>0
 |b::_=>b.toNat
def isLU (b:UInt8):Bool:=isL b.toNat
def isDU (b:UInt8):Bool:=isD b.toNat
theorem sfx_len (s:ByteArray)(i:Int):(sfx s i).length=s.size-i.toNat:=by
 unfold sfx;rw [List.length_drop];rfl
theorem sfx_nil (s:ByteArray)(i:Int)(h:(s.size:Int)≤i):sfx s i=[]:=
 List.eq_nil_of_length_eq_zero (by rw [sfx_len];omega)
theorem sfx_cons (s:ByteArray)(i:Int)(h0:0≤i)(h1:i<s.size):∃b:UInt8,sfx s i=b::sfx s (i+1)∧bt s i=b.toNat∧nx s i=b.toNat:=by
 have hl:i.toNat<s.data.toList.length:=by show i.toNat<s.size;omega
 refine ⟨s.data.toList[i.toNat],?_,?_,?_⟩
 · unfold sfx
   rw [show (i+1).toNat=i.toNat+1 by omega]
   exact List.drop_eq_getElem_cons hl
 · unfold bt
   rw [dif_pos (show i.toNat<s.size from hl)]
   rfl
 · unfold nx
   rw [if_neg (by omega)]
   unfold bt
   rw [dif_pos (show i.toNat<s.size from hl)]
   rfl
theorem nx_hd (s:ByteArray)(i:Int)(h0:0≤i):nx s i=hd (sfx s i):=by
 by_cases h:i<s.size
 · obtain ⟨b,h1,_,h3⟩:=sfx_cons s i h0 h
   rw [h1,h3];rfl
 · rw [nx_past s i (by omega),sfx_nil s i (by omega)];rfl
theorem sfx_tail (s:ByteArray)(i:Int)(h0:0≤i):sfx s (i+1)=(sfx s i).tail:=by
 by_cases h:i<s.size
 · obtain ⟨b,h1,_⟩:=sfx_cons s i h0 h
   rw [h1];rfl
 · rw [sfx_nil s i (by omega),sfx_nil s (i+1) (by omega)];rfl
theorem sfx_drop (s:ByteArray)(i:Int)(n:Nat)(h0:0≤i):sfx s (i+n)=(sfx s i).drop n:=by
 unfold sfx
 rw [List.drop_drop,show (i+n).toNat=i.toNat+n by omega]
def spanL (p:UInt8→Bool):List UInt8→Nat
 |[]=>0
 |b::l=>if p b=true then spanL p l+1 else 0
def wdU (b:UInt8):Bool:=isLU b||isDU b
def nameL:List UInt8→Nat
 |[]=>0
 |b::l=>if isLU b=true then spanL wdU l+1 else 0
def numL:UInt8→List UInt8→Nat
 |_,[]=>0
 |p,b::l=>if isLU b=true∨isDU b=true∨b=46∨((b=43∨b=45)∧(p=101∨p=69)) then numL b l+1 else 0
def numberL:List UInt8→Nat
 |[]=>0
 |b::l=>if isDU b=true∨(b=46∧isD (hd l)=true) then numL b l+1 else 0
def quoL (q:UInt8):List UInt8→Option Nat
 |[]=>none
 |b::l=>if b=q then some 1 else if b=10 then none else if b=92 then (match l with|[]=>none|b2::l2=>if b2=10 then none else (quoL q l2).map (· +2)) else (quoL q l).map (· +1)
def quotedL (q:UInt8):List UInt8→Nat
 |[]=>0
 |b::l=>if b=q then (match quoL q l with|none=>0|some n=>n+1) else 0
theorem u8_eq (b:UInt8)(n:Nat)(hn:n<256):((b.toNat:Int)=(n:Int))↔b=UInt8.ofNat n:=by
 constructor
 · intro h
   have h':b.toNat=n:=by omega
   rw [←h',UInt8.ofNat_toNat]
 · rintro rfl
   rw [UInt8.toNat_ofNat']
   have:n % 2 ^ 8=n:=Nat.mod_eq_of_lt hn
   omega
section
variable (s:ByteArray)(at0:Int)(sg:List ByteArray)(c:Bool)
theorem name_l0_eq (hs:s.size≤1000000)(h0:0≤at0)(h1:at0≤s.size):∀(d k:Nat) (x:Int),0≤x→at0+x≤s.size→(s.size:Int)-(at0+x)≤d→d<k→∀v,lex_scanner_name.l0 k x s at0 v sg c=some (x+spanL wdU (sfx s (at0+x)),s,at0,v,c)
 |d,0,_,_,_,_,h=>by omega
 |d,k+1,x,hx0,hx1,hd,hk=>fun v=>by
  have hn:=next_tot s at0 sg c hs h0 h1 x hx0 (by omega)
  simp only [lex_scanner_name.l0,hn,Option.bind_some,isL_eq,isD_eq]
  by_cases hp:at0+x<s.size
  · obtain ⟨d',rfl⟩:∃d',d=d'+1:=⟨d-1,by omega⟩
    have ih:=name_l0_eq hs h0 h1 d' k (x+1) (by omega) (by omega) (by omega) (by omega) v
    obtain ⟨b,e1,_,e3⟩:=sfx_cons s (at0+x) (by omega) hp
    rw [e1,e3,show at0+x+1=at0+(x+1) by omega]
    simp only [wr (a:=x+1) (by omega) (by omega)]
    rw [spanL]
    by_cases q1:isL (b.toNat:Int)=true
    · rw [if_pos q1,ih,if_pos (show wdU b=true by unfold wdU isLU;rw [q1];rfl)]
      simp only [Option.some.injEq,Prod.mk.injEq,and_true]
      omega
    · rw [if_neg q1]
      by_cases q2:isD (b.toNat:Int)=true
      · rw [if_pos q2,ih,if_pos (show wdU b=true by unfold wdU isDU;rw [q2];simp)]
        simp only [Option.some.injEq,Prod.mk.injEq,and_true]
        omega
      · rw [if_neg q2,if_neg (show ¬wdU b=true by unfold wdU isLU isDU;simp [q1,q2])]
        simp
  · rw [nx_past s _ (by omega),isL_0,isD_0,sfx_nil s _ (by omega)]
    simp [spanL]
theorem name_eq (hs:s.size≤1000000)(h0:0≤at0)(h1:at0≤s.size)(k:Nat)(hk:s.size<k):∀v,lex_scanner_name.f k s at0 v sg c=some ((nameL (sfx s at0):Int),s,at0,v,c):=fun v=>by
 have hn:=next_tot s at0 sg c hs h0 h1 0 (by omega) (by omega)
 simp only [lex_scanner_name.f,hn,Option.bind_some,isL_eq]
 have hl:=name_l0_eq s at0 sg c hs h0 h1 s.size k 0 (by omega) (by omega) (by omega) hk v
 rw [Int.add_zero] at *
 by_cases hp:at0<s.size
 · obtain ⟨b,e1,_,e3⟩:=sfx_cons s at0 h0 hp
   rw [e3,hl,e1]
   rw [nameL]
   by_cases q:isL (b.toNat:Int)=true
   · rw [if_pos q,if_pos (show isLU b=true from q)]
     rw [spanL,if_pos (show wdU b=true by unfold wdU isLU;rw [q];rfl)]
     simp
   · rw [if_neg q,if_neg (show ¬isLU b=true from q)]
     rfl
 · rw [nx_past s _ (by omega),isL_0,sfx_nil s _ (by omega)]
   rfl
theorem number_l0_eq (hs:s.size≤1000000)(h0:0≤at0)(h1:at0≤s.size):∀(d k:Nat) (x:Int) (p:UInt8),1≤x→at0+x≤s.size→nx s (at0+(x-1))=p.toNat→(s.size:Int)-(at0+x)≤d→d<k→∀v,lex_scanner_number.l0 k x s at0 v sg c=some (x+numL p (sfx s (at0+x)),s,at0,v,c)
 |d,0,_,_,_,_,_,_,h=>by omega
 |d,k+1,x,p,hx0,hx1,hp0,hd,hk=>fun v=>by
  have hn:=next_tot s at0 sg c hs h0 h1 x (by omega) (by omega)
  have hm:=next_tot s at0 sg c hs h0 h1 (x-1) (by omega) (by omega)
  simp only [lex_scanner_number.l0,wr (a:=x-1) (by omega) (by omega),wr (a:=x+1) (by omega) (by omega),hn,hm,Option.bind_some,isL_eq,isD_eq]
  rw [hp0]
  by_cases hp:at0+x<s.size
  · obtain ⟨d',rfl⟩:∃d',d=d'+1:=⟨d-1,by omega⟩
    obtain ⟨b,e1,_,e3⟩:=sfx_cons s (at0+x) (by omega) hp
    have ih:=number_l0_eq hs h0 h1 d' k (x+1) b (by omega) (by omega) (by rw [show at0+(x+1-1)=at0+x by omega];exact e3) (by omega) (by omega) v
    rw [e1,e3,show at0+x+1=at0+(x+1) by omega]
    rw [numL,ih]
    have y46:((b.toNat:Int)=46)↔b=46:=u8_eq b 46 (by decide)
    have y43:((b.toNat:Int)=43)↔b=43:=u8_eq b 43 (by decide)
    have y45:((b.toNat:Int)=45)↔b=45:=u8_eq b 45 (by decide)
    have y101:((p.toNat:Int)=101)↔p=101:=u8_eq p 101 (by decide)
    have y69:((p.toNat:Int)=69)↔p=69:=u8_eq p 69 (by decide)
    simp only [y46,y43,y45,y101,y69]
    have e:some (x+1+(numL b (sfx s (at0+(x+1))):Int),s,at0,v,c)=some (x+((numL b (sfx s (at0+(x+1)))+1:Nat):Int),s,at0,v,c):=by
     simp only [Option.some.injEq,Prod.mk.injEq,and_true];omega
    rw [e]
    unfold isLU isDU
    by_cases q1:isL (b.toNat:Int)=true
    · simp [q1]
    · by_cases q2:isD (b.toNat:Int)=true
      · simp [q1,q2]
      · by_cases q3:b=46
        · simp [q1,q2,q3]
        · by_cases q4:b=43
          · subst q4
            by_cases q6:p=101
            · simp [q1,q2,q6]
            · by_cases q7:p=69
              · simp [q1,q2,q6,q7]
              · simp [q6,q7,show isL 43=false by decide,show isD 43=false by decide]
          · by_cases q5:b=45
            · subst q5
              by_cases q6:p=101
              · simp [q1,q2,q6]
              · by_cases q7:p=69
                · simp [q1,q2,q6,q7]
                · simp [q6,q7,show isL 45=false by decide,show isD 45=false by decide]
            · simp [q1,q2,q3,q4,q5]
  · rw [nx_past s _ (by omega),isL_0,isD_0,sfx_nil s _ (by omega)]
    simp [numL]
theorem number_eq (hs:s.size≤1000000)(h0:0≤at0)(h1:at0≤s.size)(k:Nat)(hk:s.size+1<k):∀v,lex_scanner_number.f k s at0 v sg c=some ((numberL (sfx s at0):Int),s,at0,v,c):=fun v=>by
 have hn:=next_tot s at0 sg c hs h0 h1 0 (by omega) (by omega)
 have hm:=next_tot s at0 sg c hs h0 h1 1 (by omega) (by omega)
 simp only [lex_scanner_number.f,hn,hm,Option.bind_some,isD_eq]
 obtain ⟨k,rfl⟩:∃m,k=m+1:=⟨k-1,by omega⟩
 simp only [lex_scanner_number.j0]
 rw [Int.add_zero]
 by_cases hp:at0<s.size
 · obtain ⟨b,e1,_,e3⟩:=sfx_cons s at0 h0 hp
   have hl:=number_l0_eq s at0 sg c hs h0 h1 s.size k 1 b (by omega) (by omega) (by rw [show at0+((1:Int)-1)=at0 by omega];exact e3) (by omega) (by omega) v
   rw [e3,hl,e1,nx_hd s (at0+1) (by omega)]
   rw [numberL]
   have y46:((b.toNat:Int)=46)↔b=46:=u8_eq b 46 (by decide)
   simp only [y46]
   unfold isDU
   have e:some (1+(numL b (sfx s (at0+1)):Int),s,at0,v,c)=some (((numL b (sfx s (at0+1))+1:Nat):Int),s,at0,v,c):=by
    simp only [Option.some.injEq,Prod.mk.injEq,and_true];omega
   rw [e]
   by_cases q1:isD (b.toNat:Int)=true
   · simp [q1]
   · by_cases q2:b=46
     · subst q2
       by_cases q3:isD (hd (sfx s (at0+1)))=true
       · simp [q1,q3]
       · simp [q3,show isD 46=false by decide]
     · simp [q1,q2]
 · rw [nx_past s _ (by omega),isD_0,sfx_nil s _ (by omega)]
   simp [numberL]
end
theorem prefix_eq (a b:ByteArray):strings_HasPrefix.f a b=some (b.data.toList.isPrefixOf a.data.toList):=by
 simp only [strings_HasPrefix.f,stringslite_HasPrefix.f]
 by_cases h:(a.size:Int)≥(b.size:Int)
 · rw [if_pos h,if_pos (by omega),if_pos (by omega)]
   simp only [Option.bind_some,Option.some.injEq]
   rw [Lib.toList_data,Lib.toList_data,Int.toNat_natCast,Lib.Pa.extract_upto_list]
   have hl:b.size=b.data.toList.length:=rfl
   rw [hl,Bool.eq_iff_iff,List.isPrefixOf_iff_prefix,beq_iff_eq,List.prefix_iff_eq_take]
   exact ⟨fun h=>h.symm,fun h=>h.symm⟩
 · rw [if_neg h]
   simp only [Option.bind_some,Option.some.injEq]
   rw [eq_comm,Bool.eq_false_iff]
   intro hp
   have:=(List.isPrefixOf_iff_prefix.1 hp).length_le
   have h1:a.data.toList.length=a.size:=rfl
   have h2:b.data.toList.length=b.size:=rfl
   omega
def stepS (l:List UInt8)(n:Nat)(t:ByteArray):Nat:=if n<t.size∧t.data.toList.isPrefixOf l=true then t.size else n
def signL (sg:List ByteArray)(l:List UInt8):Nat:=sg.foldl (stepS l) 0
def lineG:UInt8→UInt8→List UInt8→Nat × Bool
 |_,_,[]=>(0,false)
 |p2,p1,b::l=>if b=10∧¬(p1=92∨(p1=13∧p2=92)) then (0,p1==13) else ((lineG p1 b l).1+1,(lineG p1 b l).2)
def lineL (c:Bool):List UInt8→Nat
 |[]=>0
 |b::l=>if c=true∧b=35 then 1+(lineG 0 b l).1-(if (lineG 0 b l).2=true then 1 else 0) else 0
section
variable (s:ByteArray)(at0:Int)(sg:List ByteArray)(c:Bool)
theorem quoted_l0_eq (hs:s.size≤1000000)(h0:0≤at0)(h1:at0≤s.size)(q:UInt8):∀(d k:Nat) (x:Int),0≤x→x≤1500000→(s.size:Int)-(at0+x)≤d→d<k→∀v,lex_scanner_quoted.l0 k q.toNat x s at0 v sg c=some ((match quoL q (sfx s (at0+x)) with|none=>0|some m=>x+m),s,at0,v,c)
 |d,0,_,_,_,_,h=>by omega
 |d,k+1,x,hx0,hx1,hd,hk=>fun v=>by
  have hn:=next_tot s at0 sg c hs h0 h1 x hx0 (by omega)
  have hm:=next_tot s at0 sg c hs h0 h1 (x+1) (by omega) (by omega)
  simp only [lex_scanner_quoted.l0,wr (a:=at0+x) (by omega) (by omega),wr (a:=x+1) (by omega) (by omega),wr (a:=x+1+1) (by omega) (by omega)]
  by_cases hp:at0+x<s.size
  · rw [if_pos hp]
    simp only [hn,hm,Option.bind_some]
    obtain ⟨d',rfl⟩:∃d',d=d'+1:=⟨d-1,by omega⟩
    obtain ⟨b,e1,_,e3⟩:=sfx_cons s (at0+x) (by omega) hp
    have ih1:=quoted_l0_eq hs h0 h1 q d' k (x+1) (by omega) (by omega) (by omega) (by omega) v
    have ih2:=quoted_l0_eq hs h0 h1 q d' k (x+1+1) (by omega) (by omega) (by omega) (by omega) v
    rw [e1,e3,quoL.eq_def]
    dsimp only
    have yq:((b.toNat:Int)=(q.toNat:Int))↔b=q:=by
     constructor
     · intro h;exact UInt8.toNat_inj.1 (by omega)
     · rintro rfl;rfl
    have y10:((b.toNat:Int)=10)↔b=10:=u8_eq b 10 (by decide)
    have y92:((b.toNat:Int)=92)↔b=92:=u8_eq b 92 (by decide)
    simp only [yq,y10,y92]
    by_cases q1:b=q
    · rw [if_pos q1,if_pos q1]
      simp
    · rw [if_neg q1,if_neg q1]
      by_cases q2:b=10
      · rw [if_pos q2,if_pos q2]
      · rw [if_neg q2,if_neg q2]
        by_cases q3:b=92
        · rw [if_pos q3,if_pos q3]
          rw [show at0+x+1=at0+(x+1) by omega]
          by_cases hp2:at0+(x+1)<s.size
          · obtain ⟨b2,e4,_,e6⟩:=sfx_cons s (at0+(x+1)) (by omega) hp2
            have y10':((b2.toNat:Int)=10)↔b2=10:=u8_eq b2 10 (by decide)
            rw [e4,e6]
            simp only [y10']
            by_cases q4:b2=10
            · rw [if_pos q4,if_pos q4]
            · rw [if_neg q4,if_neg q4,ih2,show at0+(x+1)+1=at0+(x+1+1) by omega]
              cases quoL q (sfx s (at0+(x+1+1))) with
              |none=>rfl
              |some m=>
               show some (x+1+1+(m:Int),s,at0,v,c)=some (x+((m+2:Nat):Int),s,at0,v,c)
               rw [show x+1+1+(m:Int)=x+((m+2:Nat):Int) by omega]
          · rw [nx_past s _ (by omega),sfx_nil s _ (by omega),ih2,sfx_nil s (at0+(x+1+1)) (by omega)]
            simp [quoL]
        · rw [if_neg q3,if_neg q3,ih1,show at0+x+1=at0+(x+1) by omega]
          cases quoL q (sfx s (at0+(x+1))) with
          |none=>rfl
          |some m=>
           show some (x+1+(m:Int),s,at0,v,c)=some (x+((m+1:Nat):Int),s,at0,v,c)
           rw [show x+1+(m:Int)=x+((m+1:Nat):Int) by omega]
  · rw [if_neg hp,sfx_nil s _ (by omega)]
    rfl
theorem quoted_eq (hs:s.size≤1000000)(h0:0≤at0)(h1:at0≤s.size)(q:UInt8)(hq:q≠0)(k:Nat)(hk:s.size<k):∀v,lex_scanner_quoted.f k s at0 v sg c q.toNat=some ((quotedL q (sfx s at0):Int),s,at0,v,c):=fun v=>by
 have hn:=next_tot s at0 sg c hs h0 h1 0 (by omega) (by omega)
 have hl:=quoted_l0_eq s at0 sg c hs h0 h1 q s.size k 1 (by omega) (by omega) (by omega) hk v
 simp only [lex_scanner_quoted.f,hn,Option.bind_some,hl]
 rw [Int.add_zero]
 by_cases hp:at0<s.size
 · obtain ⟨b,e1,_,e3⟩:=sfx_cons s at0 h0 hp
   rw [e3,e1,quotedL]
   have yq:((b.toNat:Int)=(q.toNat:Int))↔b=q:=by
    constructor
    · intro h;exact UInt8.toNat_inj.1 (by omega)
    · rintro rfl;rfl
   simp only [yq]
   by_cases q1:b=q
   · rw [if_pos q1,if_pos q1]
     cases quoL q (sfx s (at0+1)) with
     |none=>rfl
     |some m=>
      simp only [Option.some.injEq,Prod.mk.injEq,and_true]
      omega
   · rw [if_neg q1,if_neg q1];rfl
 · rw [nx_past s at0 (by omega),sfx_nil s at0 (by omega),if_neg (by
    intro h
    exact hq (UInt8.toNat_inj.1 (by have:(0:UInt8).toNat=0:=rfl;omega)))]
   rfl
theorem char_eq (hs:s.size≤1000000)(h0:0≤at0)(h1:at0≤s.size)(k:Nat)(hk:s.size<k):∀v,lex_scanner_char.f k s at0 v sg c=some ((quotedL 39 (sfx s at0):Int),s,at0,v,c):=fun v=>by
 have:=quoted_eq s at0 sg c hs h0 h1 39 (by decide) k hk v
 have e:((39:UInt8).toNat:Int)=39:=rfl
 rw [e] at this
 simp only [lex_scanner_char.f,this,Option.bind_some]
theorem text_eq (hs:s.size≤1000000)(h0:0≤at0)(h1:at0≤s.size)(k:Nat)(hk:s.size<k):∀v,lex_scanner_text.f k s at0 v sg c=some ((quotedL 34 (sfx s at0):Int),s,at0,v,c):=fun v=>by
 have:=quoted_eq s at0 sg c hs h0 h1 34 (by decide) k hk v
 have e:((34:UInt8).toNat:Int)=34:=rfl
 rw [e] at this
 simp only [lex_scanner_text.f,this,Option.bind_some]
theorem rest_list (h0:0≤at0):(s.extract at0.toNat s.size).data.toList=sfx s at0:=by
 rw [Lib.extract_to_end];rfl
theorem sign_l0_eq (hs:s.size≤1000000)(h0:0≤at0)(h1:at0≤s.size)(hl:sg.length≤1000000):∀(d k n:Nat) (j:Int),0≤j→(sg.length:Int)-j≤d→d<k→∀v,lex_scanner_sign.l0 k n sg (sg.length:Int) j s at0 v sg c=some ((((sg.drop j.toNat).foldl (stepS (sfx s at0)) n:Nat):Int),s,at0,v,c)
 |d,0,_,_,_,_,h=>by omega
 |d,k+1,n,j,hj,hd,hk=>fun v=>by
  simp only [lex_scanner_sign.l0]
  by_cases hp:j<sg.length
  · obtain ⟨d',rfl⟩:∃d',d=d'+1:=⟨d-1,by omega⟩
    rw [if_pos hp,if_pos hj,if_pos hp]
    have hjl:j.toNat<sg.length:=by omega
    have hrd:rdOf ByteArray.empty sg j=sg[j.toNat]:=by
     show sg.getD j.toNat ByteArray.empty=_
     rw [List.getD_eq_getElem?_getD,List.getElem?_eq_getElem hjl];rfl
    rw [hrd,List.drop_eq_getElem_cons hjl,List.foldl_cons]
    generalize sg[j.toNat]=t
    have hr:=rest_tot s at0 sg c hs h0 h1
    have e:(j+1).toNat=j.toNat+1:=by omega
    have ih:=fun n=>sign_l0_eq hs h0 h1 hl d' k n (j+1) (by omega) (by omega) (by omega) v
    simp only [hr,Option.bind_some,prefix_eq,rest_list s at0 h0,wr (a:=j+1) (by omega) (by omega)]
    rw [e] at ih
    simp only [ih]
    unfold stepS
    by_cases q1:n<t.size
    · rw [if_pos (by omega)]
      by_cases q2:t.data.toList.isPrefixOf (sfx s at0)=true
      · rw [if_pos q2,if_pos ⟨q1,q2⟩]
      · rw [if_neg q2,if_neg (fun h=>q2 h.2)]
    · rw [if_neg (by omega),if_neg (fun h=>q1 h.1)]
  · rw [if_neg hp,List.drop_eq_nil_of_le (by omega)]
    rfl
theorem sign_eq (hs:s.size≤1000000)(h0:0≤at0)(h1:at0≤s.size)(hl:sg.length≤1000000)(k:Nat)(hk:sg.length<k):∀v,lex_scanner_sign.f k s at0 v sg c=some ((signL sg (sfx s at0):Int),s,at0,v,c):=fun v=>by
 have:=sign_l0_eq s at0 sg c hs h0 h1 hl sg.length k 0 0 (by omega) (by omega) hk v
 simpa [lex_scanner_sign.f,signL] using this
end
end Go.Proofs.YtolaiebjmhieiaaGreatDoor.OScan
end
