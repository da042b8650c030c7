/- Parts of the proof of HeadUsers; no condition. -/
import Derived.Test.YtolaiebjmhieiaaGreatDoorM01
import Derived.Test.YtolaiebjmhieiaaGreatDoorM03
import Derived.BigRegion
import Derived.Deep.RegionLaw
import Derived.Deep.QuietTactic
import Derived.BigQuiet
import Derived.OwnWalk
import Derived.Laws.EntriesVeiled
import Derived.Lib.SplitLaws
set_option maxHeartbeats 8000000
set_option maxRecDepth 100000
set_option linter.unusedVariables false
set_option linter.unusedSimpArgs false
section
namespace Go.Proofs.YtolaiebjmhieiaaGreatDoor.OCond
open Go.RowKit YtolaiebjmhieiaaGreatDoorW.PrintWords YtolaiebjmhieiaaGreatDoorW.PrintLast YtolaiebjmhieiaaGreatDoorW.PrintMore
attribute [local go_sem] jF jD ku jZ jc iZ jE jC
def stringslite_HasPrefix.f (a0:ByteArray)(a1:ByteArray):Option (Bool):=if (a0.size:Int)≥(a1.size:Int) then (if 0≤(a1.size:Int) then (if (a1.size:Int)≤(a0.size:Int) then (some ((a0.extract 0 ((a1.size:Int):Int).toNat).toList==a1.toList)) else (none)) else (none)) else (some false)
theorem stringslite_HasPrefix.calls (a0:ByteArray)(a1:ByteArray)(r:Bool)(w:World)(h:stringslite_HasPrefix.f a0 a1=some r):
 Calls Tryz.prog 131 #[.string a0,.string a1] w fun e w'=>e= .returned (.bool r)∧dM w w':=by
 have H:=h
 clear h
 unfold stringslite_HasPrefix.f at H
 by_cases c3:(a0.size:Int)≥(a1.size:Int)
 · rw [if_pos c3] at H
   have c3b0:decide ((a1.size:Int)≤(a0.size:Int))=true:=decide_eq_true c3
   have c3b1:decide (a1.size≤a0.size)=true:=decide_eq_true (Int.ofNat_le.mp c3)
   clear c3
   replace H:=zyn H
   obtain ⟨c4b0,c4b1,H⟩:=H
   replace H:=zyn H
   obtain ⟨c5b0,c5b1,H⟩:=H
   obtain rfl:=Option.some.inj H
   go_enter Tryz.func131,Tryz.ntmps131
   go_wp2
   go_ret
   exact ⟨zr,zq⟩
 · rw [if_neg c3] at H
   have c3b0:decide ((a1.size:Int)≤(a0.size:Int))=false:=decide_eq_false c3
   have c3b1:decide (a1.size≤a0.size)=false:=decide_eq_false (fun h=>c3 (Int.ofNat_le.mpr h))
   clear c3
   obtain rfl:=Option.some.inj H
   go_enter Tryz.func131,Tryz.ntmps131
   go_wp2
   go_ret
   exact ⟨zr,zq⟩
def strings_HasPrefix.f (a0:ByteArray)(a1:ByteArray):Option (Bool):=(stringslite_HasPrefix.f a0 a1).bind fun t101=>(some t101)
theorem strings_HasPrefix.calls (a0:ByteArray)(a1:ByteArray)(r:Bool)(w:World)(h:strings_HasPrefix.f a0 a1=some r):
 Calls Tryz.prog 72 #[.string a0,.string a1] w fun e w'=>e= .returned (.bool r)∧dM w w':=by
 have H:=h
 clear h
 unfold strings_HasPrefix.f at H
 replace H:=zo H
 obtain ⟨t101,A3,H⟩:=H
 (try dsimp only at H)
 obtain rfl:=Option.some.inj H
 go_enter Tryz.func72,Tryz.ntmps72
 go_wp2_with (first|(refine zc 7 rfl Tryz.func131 #[.string a0,.string a1] ?_;refine za (stringslite_HasPrefix.calls a0 a1 t101 _ A3.out) fun nd=> ?_))
 go_ret
 exact ⟨zr,zq⟩
def iY (x:OScan.Tk):S95:=⟨x.1,x.2.1,x.2.2.1,x.2.2.2⟩
theorem NC {α β:Type}{d:Kd α}{f:β→α}{g:α→β}(hfg:∀x,f (g x)=x){e:Nat}{w:World}{base:Nat}{ok:Nat→Prop}{v:Value}{xs:List α}(h:Kd.R d e w base ok v xs):Kd.R (Kd.iso d f) e w base ok v (xs.map g):=by
 obtain ⟨h0,inner,ho,hr⟩:=h
 refine ⟨h0,inner,by rw [List.length_map];exact ho,by rw [List.length_map];exact hr.1,fun j p hp=> ?_⟩
 rw [List.getElem?_map] at hp
 obtain ⟨q,hq,rfl⟩:=Option.map_eq_some_iff.1 hp
 have h1:=hr.2 j q hq
 show d.M _ _ _ (f (g q)) _
 rw [hfg];exact h1
def kL.f (a0:ByteArray)(a1:Int):Option (List (S95)):=if a0.size≤140737488355000 then (OScan.jk (a0.size+2) a0 a1).map (List.map iY) else none
theorem kL.calls (a0:ByteArray)(a1:Int)(r1:List (S95))(w:World)(h:kL.f a0 a1=some r1)(hG_:OScan.jg w):
 Calls Tryz.prog 126 #[.string a0,.int .i64 a1] w fun e w'=>∃v0_:Value,e= .returned (v0_)∧Kd.R k95 95 w' w.heap.size (fun _=>True) v0_ r1∧Below w.heap.size w w':=by
 unfold kL.f at h
 split at h
 · rename_i hs
   obtain ⟨x,hx,rfl⟩:=Option.map_eq_some_iff.1 h
   exact (OScan.Fa _ a0 a1 x w hG_ hs hx).mono fun e w' ⟨v,he,hr,hb⟩=>⟨v,he,NC (fun _=>rfl) hr,hb⟩
 · cases h
def iy.f (a0_0:Int)(a0_1:ByteArray)(a0_2:ByteArray)(a0_3:Int):Option ((List (S95)) × Int):=if a0_0=7 then ((strings_HasPrefix.f a0_2 (⟨#[35]⟩:ByteArray)).bind fun t103=>(if t103=true then (if 1≤(a0_2.size:Int) then ((kL.f (a0_2.extract 1 a0_2.size) 0).bind fun t104=>(some (t104,0))) else (none)) else (some (([]:List (S95)),3)))) else (some (([]:List (S95)),3))
theorem iy.calls (a0_0:Int)(a0_1:ByteArray)(a0_2:ByteArray)(a0_3:Int)(r1:List (S95))(r2:Int)(w:World)(h:iy.f a0_0 a0_1 a0_2 a0_3=some (r1,r2))(hG_:OScan.jg w):
 Calls Tryz.prog 70 #[.agg #[.int .i64 a0_0,.string a0_1,.string a0_2,.int .i64 a0_3]] w fun e w'=>∃v0_:Value,e= .returned (.tuple #[v0_,.int .i64 r2])∧Kd.R k95 95 w' w.heap.size (fun _=>True) v0_ r1∧Below w.heap.size w w':=by
 have hu95:=Tryz.underlying95
 have HB:=z0 (Below.refl w.heap.size w)
 have H:=h
 clear h
 unfold iy.f at H
 replace H:=ze H
 rcases H with ⟨c2b0,c2b1,H⟩|⟨c2b0,c2b1,H⟩
 · replace H:=zo H
   obtain ⟨t103,A3,H⟩:=H
   (try dsimp only at H)
   by_cases c4:t103=true
   · subst c4
     rw [if_pos rfl] at H
     replace H:=zyn H
     obtain ⟨c5b0,c5b1,H⟩:=H
     replace H:=zo H
     obtain ⟨t104,A6,H⟩:=H
     (try dsimp only at H)
     simp only [Option.some.injEq,Prod.mk.injEq] at H
     obtain ⟨rfl,rfl⟩:=H
     go_enter Tryz.func70,Tryz.ntmps70
     go_wp2_with (first|((with_reducible refine iP (N:=1) rfl ?_);refine jP ?hg (N:=1) ?hd (cs:= #[.int .i64 a0_0,.string a0_1,.string a0_2,.int .i64 a0_3]) (t:=95) ?hr ?_;(case hd=>rfl);(case hg=>rfl);(case hr=>first|(go_simp;done)|(go_simp;rfl));intro gb102 hg w7 hbox hb;have n0_:=z0 (ak zw hb);have n1_:=z0 (hbox);have n2_:=z0 ((by rw [hg];exact (aQ zw):w.heap.size≤gb102));have n3_:=z0 ((by rw [hg];exact (aQ zw):w.heap.size≤gb102));revert n0_ n1_ n2_ n3_;clear HB;intro HB BK102 GW102 GE102;clear hb hbox hg;have hcz8_0:w7.cell? ⟨gb102,0,none⟩=some (.int .i64 a0_0):=(aC BK102.out 0).trans rfl;have hcz8_1:w7.cell? ⟨gb102,1,none⟩=some (.string a0_1):=(aC BK102.out 1).trans rfl;have hcz8_2:w7.cell? ⟨gb102,2,none⟩=some (.string a0_2):=(aC BK102.out 2).trans rfl;have hcz8_3:w7.cell? ⟨gb102,3,none⟩=some (.int .i64 a0_3):=(aC BK102.out 3).trans rfl;have hfz8_0:=aj BK102.out 0;have hfz8_1:=aj BK102.out 1;have hfz8_2:=aj BK102.out 2;have hfz8_3:=aj BK102.out 3)|(go_at_call 72;(with_reducible refine (strings_HasPrefix.calls a0_2 (⟨#[35]⟩:ByteArray) true _ A3.out).mono ?_);rintro e w' ⟨rfl,⟨nd,rfl⟩⟩)|(refine zc 16 rfl Tryz.func126 #[.string (a0_2.extract 1 a0_2.size),.int .i64 0] ?_;(with_reducible refine (kL.calls (a0_2.extract 1 a0_2.size) 0 t104 _ A6.out (by first|exact hG_|exact hG_.below zw)).mono ?_);rintro e w9 ⟨v105,rfl,ho0,hb⟩;refine ⟨_,rfl,?_⟩;have n0_:=z0 (Kd.fZ (Kd.xI ho0 (g:=gb102) (o:= .cells #[.int .i64 a0_0,.string a0_1,.string a0_2,.int .i64 a0_3] 95 (0,0)) (by (with_reducible repeat (first|refine gV ?_ _|refine dF ?_|refine dN ?_ _));exact BK102.out)) (aQ zw));have n1_:=z0 (gW (g:=gb102) (o:= .cells #[.int .i64 a0_0,.string a0_1,.string a0_2,.int .i64 a0_3] 95 (0,0)) (by (with_reducible repeat (first|refine gV ?_ _|refine dF ?_|refine dN ?_ _));exact BK102.out) hb);have n2_:=z0 (ak zw hb);revert n0_ n1_ n2_;clear BK102 HB;intro HO106 BK102 HB;(try clear hb);(try clear hk);(try clear hi);(try clear ho0)))
     go_ret2
     exact ⟨_,zv,by (with_reducible repeat (first|apply Kd.dP|apply Kd.dS|apply Kd.fU));exact Kd.fM HO106.out (fun _ hk=>trivial),zw⟩
   · replace c4:=Bool.eq_false_iff.mpr c4
     subst c4
     rw [if_neg nofun] at H
     simp only [Option.some.injEq,Prod.mk.injEq] at H
     obtain ⟨rfl,rfl⟩:=H
     go_enter Tryz.func70,Tryz.ntmps70
     go_wp2_with (first|((with_reducible refine iP (N:=1) rfl ?_);refine jP ?hg (N:=1) ?hd (cs:= #[.int .i64 a0_0,.string a0_1,.string a0_2,.int .i64 a0_3]) (t:=95) ?hr ?_;(case hd=>rfl);(case hg=>rfl);(case hr=>first|(go_simp;done)|(go_simp;rfl));intro gb102 hg w10 hbox hb;have n0_:=z0 (ak zw hb);have n1_:=z0 (hbox);have n2_:=z0 ((by rw [hg];exact (aQ zw):w.heap.size≤gb102));have n3_:=z0 ((by rw [hg];exact (aQ zw):w.heap.size≤gb102));revert n0_ n1_ n2_ n3_;clear HB;intro HB BK102 GW102 GE102;clear hb hbox hg;have hcz11_0:w10.cell? ⟨gb102,0,none⟩=some (.int .i64 a0_0):=(aC BK102.out 0).trans rfl;have hcz11_1:w10.cell? ⟨gb102,1,none⟩=some (.string a0_1):=(aC BK102.out 1).trans rfl;have hcz11_2:w10.cell? ⟨gb102,2,none⟩=some (.string a0_2):=(aC BK102.out 2).trans rfl;have hcz11_3:w10.cell? ⟨gb102,3,none⟩=some (.int .i64 a0_3):=(aC BK102.out 3).trans rfl;have hfz11_0:=aj BK102.out 0;have hfz11_1:=aj BK102.out 1;have hfz11_2:=aj BK102.out 2;have hfz11_3:=aj BK102.out 3)|(go_at_call 72;(with_reducible refine (strings_HasPrefix.calls a0_2 (⟨#[35]⟩:ByteArray) false _ A3.out).mono ?_);rintro e w' ⟨rfl,⟨nd,rfl⟩⟩))
     go_ret2
     exact ⟨_,zv,by first|exact Kd.gQ _ _ _ _ _|exact Kd.N_nil _ _ _ _ _|exact Kd.V_nil _ _ _ _ _|exact Kd.Q_nil _ _ _ _ _|exact Kd.uS _ _ _ _ _,zw⟩
 · simp only [Option.some.injEq,Prod.mk.injEq] at H
   obtain ⟨rfl,rfl⟩:=H
   go_enter Tryz.func70,Tryz.ntmps70
   go_wp2_with (first|((with_reducible refine iP (N:=1) rfl ?_);refine jP ?hg (N:=1) ?hd (cs:= #[.int .i64 a0_0,.string a0_1,.string a0_2,.int .i64 a0_3]) (t:=95) ?hr ?_;(case hd=>rfl);(case hg=>rfl);(case hr=>first|(go_simp;done)|(go_simp;rfl));intro gb102 hg w12 hbox hb;have n0_:=z0 (ak zw hb);have n1_:=z0 (hbox);have n2_:=z0 ((by rw [hg];exact (aQ zw):w.heap.size≤gb102));have n3_:=z0 ((by rw [hg];exact (aQ zw):w.heap.size≤gb102));revert n0_ n1_ n2_ n3_;clear HB;intro HB BK102 GW102 GE102;clear hb hbox hg;have hcz13_0:w12.cell? ⟨gb102,0,none⟩=some (.int .i64 a0_0):=(aC BK102.out 0).trans rfl;have hcz13_1:w12.cell? ⟨gb102,1,none⟩=some (.string a0_1):=(aC BK102.out 1).trans rfl;have hcz13_2:w12.cell? ⟨gb102,2,none⟩=some (.string a0_2):=(aC BK102.out 2).trans rfl;have hcz13_3:w12.cell? ⟨gb102,3,none⟩=some (.int .i64 a0_3):=(aC BK102.out 3).trans rfl;have hfz13_0:=aj BK102.out 0;have hfz13_1:=aj BK102.out 1;have hfz13_2:=aj BK102.out 2;have hfz13_3:=aj BK102.out 3))
   go_ret2
   exact ⟨_,zv,by first|exact Kd.gQ _ _ _ _ _|exact Kd.N_nil _ _ _ _ _|exact Kd.V_nil _ _ _ _ _|exact Kd.Q_nil _ _ _ _ _|exact Kd.uS _ _ _ _ _,zw⟩
def bV.l0:Nat→List ByteArray→ByteArray→Int→Int→Option (Int)
 |0,_,_,_,_=>none
 |k+1,x0,x1,x7,x8=>if x8<x7 then (if 0≤x8 then (if x8<(x0.length:Int) then (if x1.toList=(jv ByteArray.empty x0 x8).toList then (some x8) else (bV.l0 k x0 x1 x7 (wrap64 (x8+1)))) else (none)) else (none)) else (some (-1))
def bV.f (k:Nat)(l0:List ByteArray)(a1:ByteArray):Option (Int):=bV.l0 k l0 a1 (l0.length:Int) 0
theorem bV.calls (k:Nat)(A0:Option Addr)(c0:Nat)(l0:List ByteArray)(a1:ByteArray)(r:Int)(w:World)(hr0:Kd.C Kd.string w A0 l0.length l0)(hc0:l0.length≤c0)(h:bV.f k l0 a1=some r):
 Calls Tryz.prog 54 #[.slice A0 l0.length c0,.string a1] w fun e w'=>e= .returned (.int .i64 r)∧dM w w':=by
 have HR0:=z0 hr0
 have HC0:=z0 hc0
 clear hr0 hc0
 have H:=h
 clear h
 unfold bV.f at H
 have H':=z0 H
 clear H
 go_enter Tryz.func54,Tryz.ntmps54
 go_wp2
 go_loopg [8] k (fun kq v8 w'=>∃(x8_1:Int),v8= .int .i64 x8_1∧ah (bV.l0 kq l0 a1 (l0.length:Int) x8_1=some r)∧ah (kq≤k)∧dM w w')
 case atStart=>exact ⟨(0),zr,H',⟨Nat.le_refl _⟩,zq⟩
 case round=>
  clear H'
  obtain ⟨x8_1,rfl,HA,HK1,⟨m1,rfl⟩⟩:=hrel
  cases gk with
  |zero=>exact absurd HA.out (by simp [bV.l0])
  |succ k1=>
   have H:=HA.out
   clear HA
   simp only [bV.l0] at H
   replace H:=zd H
   rcases H with ⟨c3b0,H⟩|⟨c3b0,H⟩
   · replace H:=zdn H
     obtain ⟨c4b0,H⟩:=H
     replace H:=zdn H
     obtain ⟨c5b0,H⟩:=H
     replace H:=zE H
     rcases H with ⟨c6b0,c6b1,H⟩|⟨c6b0,c6b1,H⟩
     · obtain rfl:=Option.some.inj H
       have p107:0≤(x8_1:Int):=of_decide_eq_true (by first|(with_reducible assumption)|assumption)
       have q107:x8_1<(l0.length:Int):=of_decide_eq_true (by first|(with_reducible assumption)|assumption)
       obtain ⟨ad107,e107,hx107_0⟩:=Kd.fF HR0.out x8_1 p107 q107
       cases e107
       replace p107:=eq_true p107
       replace q107:=eq_true q107
       go_wp2
       go_ret
       exact ⟨zr,zq⟩
     · have H':=z0 H
       clear H
       have p107:0≤(x8_1:Int):=of_decide_eq_true (by first|(with_reducible assumption)|assumption)
       have q107:x8_1<(l0.length:Int):=of_decide_eq_true (by first|(with_reducible assumption)|assumption)
       obtain ⟨ad107,e107,hx107_0⟩:=Kd.fF HR0.out x8_1 p107 q107
       cases e107
       replace p107:=eq_true p107
       replace q107:=eq_true q107
       go_wp2
       go_roundg k1
       case measure=>have:=HK1.out;omega
       case rel=>exact ⟨(wrap64 (x8_1+1)),zr,H',⟨by have:=HK1.out;omega⟩,zq⟩
   · obtain rfl:=Option.some.inj H
     go_wp2
     go_ret
     exact ⟨zr,zq⟩
def dA.f (k:Nat)(l0:List ByteArray)(a1:ByteArray):Option (Bool):=(bV.f k l0 a1).bind fun t108=>(some (decide (t108≥0)))
theorem dA.calls (k:Nat)(A0:Option Addr)(c0:Nat)(l0:List ByteArray)(a1:ByteArray)(r:Bool)(w:World)(hr0:Kd.C Kd.string w A0 l0.length l0)(hc0:l0.length≤c0)(h:dA.f k l0 a1=some r):
 Calls Tryz.prog 28 #[.slice A0 l0.length c0,.string a1] w fun e w'=>e= .returned (.bool r)∧dM w w':=by
 have HR0:=z0 hr0
 have HC0:=z0 hc0
 clear hr0 hc0
 have H:=h
 clear h
 unfold dA.f at H
 replace H:=zo H
 obtain ⟨t108,A3,H⟩:=H
 (try dsimp only at H)
 obtain rfl:=Option.some.inj H
 go_enter Tryz.func28,Tryz.ntmps28
 go_wp2_with (first|(refine zc 7 rfl Tryz.func54 #[.slice A0 l0.length c0,.string a1] ?_;(with_reducible refine (bV.calls k _ _ l0 a1 t108 _ ?side1 ?side2 A3.out).mono ?_);(case side1=>repeat (first|exact HR0.out|(with_reducible refine Kd.C_alloc ?_ _)|(with_reducible refine Kd.lN ?_ _)|(with_reducible refine Kd.C_drew ?_)));(case side2=>exact HC0.out);rintro e w' ⟨rfl,⟨nd,rfl⟩⟩;refine ⟨_,rfl,?_⟩))
 go_ret
 exact ⟨zr,zq⟩
def jd.f (k:Nat)(a0_0:Int)(a0_1:ByteArray)(a0_2:ByteArray)(a0_3:Int):Option (ByteArray):=if a0_0=7 then ((iy.f a0_0 a0_1 a0_2 a0_3).bind fun bt110=>(if (bt110.1.length:Int)>0 then (if 0<(bt110.1.length:Int) then ((dA.f k (([(⟨#[105,102]⟩:ByteArray),(⟨#[105,102,100,101,102]⟩:ByteArray),(⟨#[105,102,110,100,101,102]⟩:ByteArray),(⟨#[101,108,105,102]⟩:ByteArray),(⟨#[101,108,115,101]⟩:ByteArray),(⟨#[101,110,100,105,102]⟩:ByteArray),(⟨#[100,101,102,105,110,101]⟩:ByteArray),(⟨#[117,110,100,101,102]⟩:ByteArray),(⟨#[105,110,99,108,117,100,101]⟩:ByteArray)]:List ByteArray)) ((iF bt110.1 0).f2)).bind fun t118=>(if t118=true then (some ((iF bt110.1 0).f2)) else (some (⟨#[111,116,104,101,114]⟩:ByteArray)))) else (none)) else (some (⟨#[111,116,104,101,114]⟩:ByteArray)))) else (some (⟨#[]⟩:ByteArray))
theorem jd.calls (k:Nat)(a0_0:Int)(a0_1:ByteArray)(a0_2:ByteArray)(a0_3:Int)(r:ByteArray)(w:World)(h:jd.f k a0_0 a0_1 a0_2 a0_3=some r)(hG_:OScan.jg w):
 Calls Tryz.prog 67 #[.agg #[.int .i64 a0_0,.string a0_1,.string a0_2,.int .i64 a0_3]] w fun e w'=>e= .returned (.string r)∧Below w.heap.size w w':=by
 have hu95:=Tryz.underlying95
 have HB:=z0 (Below.refl w.heap.size w)
 have H:=h
 clear h
 unfold jd.f at H
 replace H:=ze H
 rcases H with ⟨c2b0,c2b1,H⟩|⟨c2b0,c2b1,H⟩
 · replace H:=zo H
   obtain ⟨⟨t110,t113⟩,A3,H⟩:=H
   (try dsimp only at H)
   by_cases c4:(t110.length:Int)>0
   · rw [if_pos c4] at H
     have c4b0:decide (0<(t110.length:Int))=true:=decide_eq_true c4
     have c4b1:decide (0<t110.length)=true:=decide_eq_true (by omega)
     clear c4
     obtain ⟨y114,hy114⟩:∃y_:List ByteArray,y_=(([(⟨#[105,102]⟩:ByteArray),(⟨#[105,102,100,101,102]⟩:ByteArray),(⟨#[105,102,110,100,101,102]⟩:ByteArray),(⟨#[101,108,105,102]⟩:ByteArray),(⟨#[101,108,115,101]⟩:ByteArray),(⟨#[101,110,100,105,102]⟩:ByteArray),(⟨#[100,101,102,105,110,101]⟩:ByteArray),(⟨#[117,110,100,101,102]⟩:ByteArray),(⟨#[105,110,99,108,117,100,101]⟩:ByteArray)]:List ByteArray)):=⟨_,rfl⟩
     replace H:(if 0<(t110.length:Int) then ((dA.f k y114 ((iF t110 0).f2)).bind fun t118=>(if t118=true then (some ((iF t110 0).f2)) else (some (⟨#[111,116,104,101,114]⟩:ByteArray)))) else (none))=some r:=by first|(rw [hy114];with_reducible exact H)|(have H2_:=(Option.bind_some _ _).symm.trans H;rw [hy114];with_reducible exact H2_)|(have H2_:=(Option.bind_some _ _).symm.trans H;with_reducible exact H2_)|with_reducible exact H|(rw [hy114];exact H)|exact H
     have Ny114:=z0 hy114
     clear hy114
     by_cases c5:0<(t110.length:Int)
     · rw [if_pos c5] at H
       have c5b0:decide (0<(t110.length:Int))=true:=decide_eq_true c5
       have c5b1:decide (0<t110.length)=true:=decide_eq_true (by omega)
       clear c5
       replace H:=zo H
       obtain ⟨t118,A6,H⟩:=H
       (try dsimp only at H)
       by_cases c7:t118=true
       · subst c7
         rw [if_pos rfl] at H
         obtain rfl:=Option.some.inj H
         go_enter Tryz.func67,Tryz.ntmps67
         go_wp2_with (first|((with_reducible refine iP (N:=1) rfl ?_);(try (refine jy (by rfl) ?_;dsimp only));refine jP ?hg (N:=1) ?hd (cs:= #[.int .i64 a0_0,.string a0_1,.string a0_2,.int .i64 a0_3]) (t:=95) ?hr ?_;(case hd=>rfl);(case hg=>rfl);(case hr=>first|(go_simp;done)|(go_simp;rfl));intro gb109 hg w8 hbox hb;have n0_:=z0 (ak zw hb);have n1_:=z0 (hbox);have n2_:=z0 ((by rw [hg];exact (aQ zw):w.heap.size≤gb109));have n3_:=z0 ((by rw [hg];exact (aQ zw):w.heap.size≤gb109));revert n0_ n1_ n2_ n3_;clear HB;intro HB BK109 GW109 GE109;clear hb hbox hg;have hcz9_0:w8.cell? ⟨gb109,0,none⟩=some (.int .i64 a0_0):=(aC BK109.out 0).trans rfl;have hcz9_1:w8.cell? ⟨gb109,1,none⟩=some (.string a0_1):=(aC BK109.out 1).trans rfl;have hcz9_2:w8.cell? ⟨gb109,2,none⟩=some (.string a0_2):=(aC BK109.out 2).trans rfl;have hcz9_3:w8.cell? ⟨gb109,3,none⟩=some (.int .i64 a0_3):=(aC BK109.out 3).trans rfl;have hfz9_0:=aj BK109.out 0;have hfz9_1:=aj BK109.out 1;have hfz9_2:=aj BK109.out 2;have hfz9_3:=aj BK109.out 3)|(refine zc 10 rfl Tryz.func70 #[.agg #[.int .i64 a0_0,.string a0_1,.string a0_2,.int .i64 a0_3]] ?_;(with_reducible refine (iy.calls a0_0 a0_1 a0_2 a0_3 t110 t113 _ A3.out (by first|exact hG_|exact hG_.below zw)).mono ?_);rintro e w10 ⟨v111,rfl,ho0,hb⟩;refine ⟨_,rfl,?_⟩;have n0_:=z0 (Kd.fZ (Kd.xI ho0 (g:=gb109) (o:= .cells #[.int .i64 a0_0,.string a0_1,.string a0_2,.int .i64 a0_3] 95 (0,0)) (by (with_reducible repeat (first|refine gV ?_ _|refine dF ?_|refine dN ?_ _));exact BK109.out)) (aQ zw));have n1_:=z0 (gW (g:=gb109) (o:= .cells #[.int .i64 a0_0,.string a0_1,.string a0_2,.int .i64 a0_3] 95 (0,0)) (by (with_reducible repeat (first|refine gV ?_ _|refine dF ?_|refine dN ?_ _));exact BK109.out) hb);have n2_:=z0 (ak zw hb);revert n0_ n1_ n2_;clear BK109 HB;intro HO112 BK109 HB;(try clear hb);(try clear hk);(try clear hi);(try clear ho0);obtain ⟨Ao11,co11,eo11⟩:=Kd.bF HO112.out;subst eo11)|((with_reducible refine iP (N:=17) rfl ?_);(try (refine jy (by rfl) ?_;dsimp only));refine Kd.xK Kd.string _ 9 ?hg (N:=17) ?hd (xs:=([(⟨#[105,102]⟩:ByteArray),(⟨#[105,102,100,101,102]⟩:ByteArray),(⟨#[105,102,110,100,101,102]⟩:ByteArray),(⟨#[101,108,105,102]⟩:ByteArray),(⟨#[101,108,115,101]⟩:ByteArray),(⟨#[101,110,100,105,102]⟩:ByteArray),(⟨#[100,101,102,105,110,101]⟩:ByteArray),(⟨#[117,110,100,101,102]⟩:ByteArray),(⟨#[105,110,99,108,117,100,101]⟩:ByteArray)]:List ByteArray)) (inner:=[.string (⟨#[105,102]⟩:ByteArray),.string (⟨#[105,102,100,101,102]⟩:ByteArray),.string (⟨#[105,102,110,100,101,102]⟩:ByteArray),.string (⟨#[101,108,105,102]⟩:ByteArray),.string (⟨#[101,108,115,101]⟩:ByteArray),.string (⟨#[101,110,100,105,102]⟩:ByteArray),.string (⟨#[100,101,102,105,110,101]⟩:ByteArray),.string (⟨#[117,110,100,101,102]⟩:ByteArray),.string (⟨#[105,110,99,108,117,100,101]⟩:ByteArray)]) (ok:=fun _=>True) (okp:=fun _=>True) ?hr ?hp (fun _ hk=>hk) trivial (Below.refl _ _) (Nat.le_refl _) (by simp) ?_;(case hd=>rfl);(case hg=>rfl);(case hr=>first|(go_simp;done)|(go_simp;rfl));(case hp=>exact (dJ.one (show Kd.M Kd.string _ _ _ (⟨#[105,102]⟩:ByteArray) [.string (⟨#[105,102]⟩:ByteArray)] from rfl) (dJ.one (show Kd.M Kd.string _ _ _ (⟨#[105,102,100,101,102]⟩:ByteArray) [.string (⟨#[105,102,100,101,102]⟩:ByteArray)] from rfl) (dJ.one (show Kd.M Kd.string _ _ _ (⟨#[105,102,110,100,101,102]⟩:ByteArray) [.string (⟨#[105,102,110,100,101,102]⟩:ByteArray)] from rfl) (dJ.one (show Kd.M Kd.string _ _ _ (⟨#[101,108,105,102]⟩:ByteArray) [.string (⟨#[101,108,105,102]⟩:ByteArray)] from rfl) (dJ.one (show Kd.M Kd.string _ _ _ (⟨#[101,108,115,101]⟩:ByteArray) [.string (⟨#[101,108,115,101]⟩:ByteArray)] from rfl) (dJ.one (show Kd.M Kd.string _ _ _ (⟨#[101,110,100,105,102]⟩:ByteArray) [.string (⟨#[101,110,100,105,102]⟩:ByteArray)] from rfl) (dJ.one (show Kd.M Kd.string _ _ _ (⟨#[100,101,102,105,110,101]⟩:ByteArray) [.string (⟨#[100,101,102,105,110,101]⟩:ByteArray)] from rfl) (dJ.one (show Kd.M Kd.string _ _ _ (⟨#[117,110,100,101,102]⟩:ByteArray) [.string (⟨#[117,110,100,101,102]⟩:ByteArray)] from rfl) (dJ.one (show Kd.M Kd.string _ _ _ (⟨#[105,110,99,108,117,100,101]⟩:ByteArray) [.string (⟨#[105,110,99,108,117,100,101]⟩:ByteArray)] from rfl) (dJ.none _ _)))))))))));intro v115 w12 ho13 hb hg_ hnew_;clear hg_ hnew_;(first|rw [←Ny114.out] at ho13|(simp only [Int.reduceToNat] at ho13;rw [←Ny114.out] at ho13));have n0_:=z0 (Kd.dn (by (with_reducible repeat (first|apply Kd.dP|apply Kd.dS|apply Kd.fU));exact HO112.out) hb);have n1_:=z0 (Kd.fZ ho13 (aQ zw));have n2_:=z0 (gW (g:=gb109) (o:= .cells #[.int .i64 a0_0,.string a0_1,.string a0_2,.int .i64 a0_3] 95 (0,0)) (by (with_reducible repeat (first|refine gV ?_ _|refine dF ?_|refine dN ?_ _));exact BK109.out) hb);have n3_:=z0 (ak zw hb);revert n0_ n1_ n2_ n3_;clear HO112 BK109 HB;intro HO112 HO116 BK109 HB;clear hb ho13;have p117:0≤(0:Int):=(by omega);have q117:0<(t110.length:Int):=of_decide_eq_true (by first|(with_reducible assumption)|assumption);obtain ⟨ad117,e117,hx117_0,hx117_1,hx117_2,hx117_3⟩:=pG (Kd.aZ HO112.out).2.2 0 p117 q117;cases e117;have qi117:(0<t110.length)=True:=eq_true (by omega);(try rw [show ((0:Int)).toNat=0 from rfl] at hx117_0);(try rw [show 0*4=0 from rfl] at hx117_0);(try rw [Addr.add_zero'] at hx117_0);(try rw [show ((0:Int)).toNat=0 from rfl] at hx117_1);(try rw [show 0*4=0 from rfl] at hx117_1);(try rw [Addr.add_zero'] at hx117_1);(try rw [show ((0:Int)).toNat=0 from rfl] at hx117_2);(try rw [show 0*4=0 from rfl] at hx117_2);(try rw [Addr.add_zero'] at hx117_2);(try rw [show ((0:Int)).toNat=0 from rfl] at hx117_3);(try rw [show 0*4=0 from rfl] at hx117_3);(try rw [Addr.add_zero'] at hx117_3);replace p117:=eq_true p117;replace q117:=eq_true q117;obtain ⟨Ao14,co14,eo14⟩:=Kd.bF HO116.out;subst eo14)|(go_at_call 28;(with_reducible refine (dA.calls k _ _ y114 ((iF t110 0).f2) true _ ?side1 ?side2 A6.out).mono ?_);(case side1=>repeat (first|exact (Kd.aZ HO116.out).2.2|(with_reducible refine Kd.C_alloc ?_ _)|(with_reducible refine Kd.lN ?_ _)|(with_reducible refine Kd.C_drew ?_)));(case side2=>exact (Kd.aZ HO116.out).2.1);rintro e w' ⟨rfl,⟨nd,rfl⟩⟩;have p119:0≤(0:Int):=(by omega);have q119:0<(t110.length:Int):=of_decide_eq_true (by first|(with_reducible assumption)|assumption);obtain ⟨ad119,e119,hx119_0,hx119_1,hx119_2,hx119_3⟩:=pG (Kd.aZ HO112.out).2.2 0 p119 q119;obtain rfl:ad117=ad119:=(by injection e119);have qi119:(0<t110.length)=True:=eq_true (by omega);(try rw [show ((0:Int)).toNat=0 from rfl] at hx119_0);(try rw [show 0*4=0 from rfl] at hx119_0);(try rw [Addr.add_zero'] at hx119_0);(try rw [show ((0:Int)).toNat=0 from rfl] at hx119_1);(try rw [show 0*4=0 from rfl] at hx119_1);(try rw [Addr.add_zero'] at hx119_1);(try rw [show ((0:Int)).toNat=0 from rfl] at hx119_2);(try rw [show 0*4=0 from rfl] at hx119_2);(try rw [Addr.add_zero'] at hx119_2);(try rw [show ((0:Int)).toNat=0 from rfl] at hx119_3);(try rw [show 0*4=0 from rfl] at hx119_3);(try rw [Addr.add_zero'] at hx119_3);replace p119:=eq_true p119;replace q119:=eq_true q119))
         go_ret
         exact ⟨zv,zw⟩
       · replace c7:=Bool.eq_false_iff.mpr c7
         subst c7
         rw [if_neg nofun] at H
         obtain rfl:=Option.some.inj H
         go_enter Tryz.func67,Tryz.ntmps67
         go_wp2_with (first|((with_reducible refine iP (N:=1) rfl ?_);(try (refine jy (by rfl) ?_;dsimp only));refine jP ?hg (N:=1) ?hd (cs:= #[.int .i64 a0_0,.string a0_1,.string a0_2,.int .i64 a0_3]) (t:=95) ?hr ?_;(case hd=>rfl);(case hg=>rfl);(case hr=>first|(go_simp;done)|(go_simp;rfl));intro gb109 hg w15 hbox hb;have n0_:=z0 (ak zw hb);have n1_:=z0 (hbox);have n2_:=z0 ((by rw [hg];exact (aQ zw):w.heap.size≤gb109));have n3_:=z0 ((by rw [hg];exact (aQ zw):w.heap.size≤gb109));revert n0_ n1_ n2_ n3_;clear HB;intro HB BK109 GW109 GE109;clear hb hbox hg;have hcz16_0:w15.cell? ⟨gb109,0,none⟩=some (.int .i64 a0_0):=(aC BK109.out 0).trans rfl;have hcz16_1:w15.cell? ⟨gb109,1,none⟩=some (.string a0_1):=(aC BK109.out 1).trans rfl;have hcz16_2:w15.cell? ⟨gb109,2,none⟩=some (.string a0_2):=(aC BK109.out 2).trans rfl;have hcz16_3:w15.cell? ⟨gb109,3,none⟩=some (.int .i64 a0_3):=(aC BK109.out 3).trans rfl;have hfz16_0:=aj BK109.out 0;have hfz16_1:=aj BK109.out 1;have hfz16_2:=aj BK109.out 2;have hfz16_3:=aj BK109.out 3)|(refine zc 10 rfl Tryz.func70 #[.agg #[.int .i64 a0_0,.string a0_1,.string a0_2,.int .i64 a0_3]] ?_;(with_reducible refine (iy.calls a0_0 a0_1 a0_2 a0_3 t110 t113 _ A3.out (by first|exact hG_|exact hG_.below zw)).mono ?_);rintro e w17 ⟨v111,rfl,ho0,hb⟩;refine ⟨_,rfl,?_⟩;have n0_:=z0 (Kd.fZ (Kd.xI ho0 (g:=gb109) (o:= .cells #[.int .i64 a0_0,.string a0_1,.string a0_2,.int .i64 a0_3] 95 (0,0)) (by (with_reducible repeat (first|refine gV ?_ _|refine dF ?_|refine dN ?_ _));exact BK109.out)) (aQ zw));have n1_:=z0 (gW (g:=gb109) (o:= .cells #[.int .i64 a0_0,.string a0_1,.string a0_2,.int .i64 a0_3] 95 (0,0)) (by (with_reducible repeat (first|refine gV ?_ _|refine dF ?_|refine dN ?_ _));exact BK109.out) hb);have n2_:=z0 (ak zw hb);revert n0_ n1_ n2_;clear BK109 HB;intro HO112 BK109 HB;(try clear hb);(try clear hk);(try clear hi);(try clear ho0);obtain ⟨Ao18,co18,eo18⟩:=Kd.bF HO112.out;subst eo18)|((with_reducible refine iP (N:=17) rfl ?_);(try (refine jy (by rfl) ?_;dsimp only));refine Kd.xK Kd.string _ 9 ?hg (N:=17) ?hd (xs:=([(⟨#[105,102]⟩:ByteArray),(⟨#[105,102,100,101,102]⟩:ByteArray),(⟨#[105,102,110,100,101,102]⟩:ByteArray),(⟨#[101,108,105,102]⟩:ByteArray),(⟨#[101,108,115,101]⟩:ByteArray),(⟨#[101,110,100,105,102]⟩:ByteArray),(⟨#[100,101,102,105,110,101]⟩:ByteArray),(⟨#[117,110,100,101,102]⟩:ByteArray),(⟨#[105,110,99,108,117,100,101]⟩:ByteArray)]:List ByteArray)) (inner:=[.string (⟨#[105,102]⟩:ByteArray),.string (⟨#[105,102,100,101,102]⟩:ByteArray),.string (⟨#[105,102,110,100,101,102]⟩:ByteArray),.string (⟨#[101,108,105,102]⟩:ByteArray),.string (⟨#[101,108,115,101]⟩:ByteArray),.string (⟨#[101,110,100,105,102]⟩:ByteArray),.string (⟨#[100,101,102,105,110,101]⟩:ByteArray),.string (⟨#[117,110,100,101,102]⟩:ByteArray),.string (⟨#[105,110,99,108,117,100,101]⟩:ByteArray)]) (ok:=fun _=>True) (okp:=fun _=>True) ?hr ?hp (fun _ hk=>hk) trivial (Below.refl _ _) (Nat.le_refl _) (by simp) ?_;(case hd=>rfl);(case hg=>rfl);(case hr=>first|(go_simp;done)|(go_simp;rfl));(case hp=>exact (dJ.one (show Kd.M Kd.string _ _ _ (⟨#[105,102]⟩:ByteArray) [.string (⟨#[105,102]⟩:ByteArray)] from rfl) (dJ.one (show Kd.M Kd.string _ _ _ (⟨#[105,102,100,101,102]⟩:ByteArray) [.string (⟨#[105,102,100,101,102]⟩:ByteArray)] from rfl) (dJ.one (show Kd.M Kd.string _ _ _ (⟨#[105,102,110,100,101,102]⟩:ByteArray) [.string (⟨#[105,102,110,100,101,102]⟩:ByteArray)] from rfl) (dJ.one (show Kd.M Kd.string _ _ _ (⟨#[101,108,105,102]⟩:ByteArray) [.string (⟨#[101,108,105,102]⟩:ByteArray)] from rfl) (dJ.one (show Kd.M Kd.string _ _ _ (⟨#[101,108,115,101]⟩:ByteArray) [.string (⟨#[101,108,115,101]⟩:ByteArray)] from rfl) (dJ.one (show Kd.M Kd.string _ _ _ (⟨#[101,110,100,105,102]⟩:ByteArray) [.string (⟨#[101,110,100,105,102]⟩:ByteArray)] from rfl) (dJ.one (show Kd.M Kd.string _ _ _ (⟨#[100,101,102,105,110,101]⟩:ByteArray) [.string (⟨#[100,101,102,105,110,101]⟩:ByteArray)] from rfl) (dJ.one (show Kd.M Kd.string _ _ _ (⟨#[117,110,100,101,102]⟩:ByteArray) [.string (⟨#[117,110,100,101,102]⟩:ByteArray)] from rfl) (dJ.one (show Kd.M Kd.string _ _ _ (⟨#[105,110,99,108,117,100,101]⟩:ByteArray) [.string (⟨#[105,110,99,108,117,100,101]⟩:ByteArray)] from rfl) (dJ.none _ _)))))))))));intro v115 w19 ho20 hb hg_ hnew_;clear hg_ hnew_;(first|rw [←Ny114.out] at ho20|(simp only [Int.reduceToNat] at ho20;rw [←Ny114.out] at ho20));have n0_:=z0 (Kd.dn (by (with_reducible repeat (first|apply Kd.dP|apply Kd.dS|apply Kd.fU));exact HO112.out) hb);have n1_:=z0 (Kd.fZ ho20 (aQ zw));have n2_:=z0 (gW (g:=gb109) (o:= .cells #[.int .i64 a0_0,.string a0_1,.string a0_2,.int .i64 a0_3] 95 (0,0)) (by (with_reducible repeat (first|refine gV ?_ _|refine dF ?_|refine dN ?_ _));exact BK109.out) hb);have n3_:=z0 (ak zw hb);revert n0_ n1_ n2_ n3_;clear HO112 BK109 HB;intro HO112 HO116 BK109 HB;clear hb ho20;have p117:0≤(0:Int):=(by omega);have q117:0<(t110.length:Int):=of_decide_eq_true (by first|(with_reducible assumption)|assumption);obtain ⟨ad117,e117,hx117_0,hx117_1,hx117_2,hx117_3⟩:=pG (Kd.aZ HO112.out).2.2 0 p117 q117;cases e117;have qi117:(0<t110.length)=True:=eq_true (by omega);(try rw [show ((0:Int)).toNat=0 from rfl] at hx117_0);(try rw [show 0*4=0 from rfl] at hx117_0);(try rw [Addr.add_zero'] at hx117_0);(try rw [show ((0:Int)).toNat=0 from rfl] at hx117_1);(try rw [show 0*4=0 from rfl] at hx117_1);(try rw [Addr.add_zero'] at hx117_1);(try rw [show ((0:Int)).toNat=0 from rfl] at hx117_2);(try rw [show 0*4=0 from rfl] at hx117_2);(try rw [Addr.add_zero'] at hx117_2);(try rw [show ((0:Int)).toNat=0 from rfl] at hx117_3);(try rw [show 0*4=0 from rfl] at hx117_3);(try rw [Addr.add_zero'] at hx117_3);replace p117:=eq_true p117;replace q117:=eq_true q117;obtain ⟨Ao21,co21,eo21⟩:=Kd.bF HO116.out;subst eo21)|(go_at_call 28;(with_reducible refine (dA.calls k _ _ y114 ((iF t110 0).f2) false _ ?side1 ?side2 A6.out).mono ?_);(case side1=>repeat (first|exact (Kd.aZ HO116.out).2.2|(with_reducible refine Kd.C_alloc ?_ _)|(with_reducible refine Kd.lN ?_ _)|(with_reducible refine Kd.C_drew ?_)));(case side2=>exact (Kd.aZ HO116.out).2.1);rintro e w' ⟨rfl,⟨nd,rfl⟩⟩))
         go_ret
         exact ⟨zv,zw⟩
     · rw [if_neg c5] at H
       cases H
   · rw [if_neg c4] at H
     have c4b0:decide (0<(t110.length:Int))=false:=decide_eq_false c4
     have c4b1:decide (0<t110.length)=false:=decide_eq_false (by omega)
     clear c4
     obtain rfl:=Option.some.inj H
     go_enter Tryz.func67,Tryz.ntmps67
     go_wp2_with (first|((with_reducible refine iP (N:=1) rfl ?_);(try (refine jy (by rfl) ?_;dsimp only));refine jP ?hg (N:=1) ?hd (cs:= #[.int .i64 a0_0,.string a0_1,.string a0_2,.int .i64 a0_3]) (t:=95) ?hr ?_;(case hd=>rfl);(case hg=>rfl);(case hr=>first|(go_simp;done)|(go_simp;rfl));intro gb109 hg w22 hbox hb;have n0_:=z0 (ak zw hb);have n1_:=z0 (hbox);have n2_:=z0 ((by rw [hg];exact (aQ zw):w.heap.size≤gb109));have n3_:=z0 ((by rw [hg];exact (aQ zw):w.heap.size≤gb109));revert n0_ n1_ n2_ n3_;clear HB;intro HB BK109 GW109 GE109;clear hb hbox hg;have hcz23_0:w22.cell? ⟨gb109,0,none⟩=some (.int .i64 a0_0):=(aC BK109.out 0).trans rfl;have hcz23_1:w22.cell? ⟨gb109,1,none⟩=some (.string a0_1):=(aC BK109.out 1).trans rfl;have hcz23_2:w22.cell? ⟨gb109,2,none⟩=some (.string a0_2):=(aC BK109.out 2).trans rfl;have hcz23_3:w22.cell? ⟨gb109,3,none⟩=some (.int .i64 a0_3):=(aC BK109.out 3).trans rfl;have hfz23_0:=aj BK109.out 0;have hfz23_1:=aj BK109.out 1;have hfz23_2:=aj BK109.out 2;have hfz23_3:=aj BK109.out 3)|(refine zc 10 rfl Tryz.func70 #[.agg #[.int .i64 a0_0,.string a0_1,.string a0_2,.int .i64 a0_3]] ?_;(with_reducible refine (iy.calls a0_0 a0_1 a0_2 a0_3 t110 t113 _ A3.out (by first|exact hG_|exact hG_.below zw)).mono ?_);rintro e w24 ⟨v111,rfl,ho0,hb⟩;refine ⟨_,rfl,?_⟩;have n0_:=z0 (Kd.fZ (Kd.xI ho0 (g:=gb109) (o:= .cells #[.int .i64 a0_0,.string a0_1,.string a0_2,.int .i64 a0_3] 95 (0,0)) (by (with_reducible repeat (first|refine gV ?_ _|refine dF ?_|refine dN ?_ _));exact BK109.out)) (aQ zw));have n1_:=z0 (gW (g:=gb109) (o:= .cells #[.int .i64 a0_0,.string a0_1,.string a0_2,.int .i64 a0_3] 95 (0,0)) (by (with_reducible repeat (first|refine gV ?_ _|refine dF ?_|refine dN ?_ _));exact BK109.out) hb);have n2_:=z0 (ak zw hb);revert n0_ n1_ n2_;clear BK109 HB;intro HO112 BK109 HB;(try clear hb);(try clear hk);(try clear hi);(try clear ho0);obtain ⟨Ao25,co25,eo25⟩:=Kd.bF HO112.out;subst eo25))
     go_ret
     exact ⟨zv,zw⟩
 · obtain rfl:=Option.some.inj H
   go_enter Tryz.func67,Tryz.ntmps67
   go_wp2_with (first|((with_reducible refine iP (N:=1) rfl ?_);(try (refine jy (by rfl) ?_;dsimp only));refine jP ?hg (N:=1) ?hd (cs:= #[.int .i64 a0_0,.string a0_1,.string a0_2,.int .i64 a0_3]) (t:=95) ?hr ?_;(case hd=>rfl);(case hg=>rfl);(case hr=>first|(go_simp;done)|(go_simp;rfl));intro gb109 hg w26 hbox hb;have n0_:=z0 (ak zw hb);have n1_:=z0 (hbox);have n2_:=z0 ((by rw [hg];exact (aQ zw):w.heap.size≤gb109));have n3_:=z0 ((by rw [hg];exact (aQ zw):w.heap.size≤gb109));revert n0_ n1_ n2_ n3_;clear HB;intro HB BK109 GW109 GE109;clear hb hbox hg;have hcz27_0:w26.cell? ⟨gb109,0,none⟩=some (.int .i64 a0_0):=(aC BK109.out 0).trans rfl;have hcz27_1:w26.cell? ⟨gb109,1,none⟩=some (.string a0_1):=(aC BK109.out 1).trans rfl;have hcz27_2:w26.cell? ⟨gb109,2,none⟩=some (.string a0_2):=(aC BK109.out 2).trans rfl;have hcz27_3:w26.cell? ⟨gb109,3,none⟩=some (.int .i64 a0_3):=(aC BK109.out 3).trans rfl;have hfz27_0:=aj BK109.out 0;have hfz27_1:=aj BK109.out 1;have hfz27_2:=aj BK109.out 2;have hfz27_3:=aj BK109.out 3))
   go_ret
   exact ⟨zv,zw⟩
def jA.f (a0:ByteArray):Option (Bool):=if a0.toList=([105,102]:List UInt8) then (some true) else (if a0.toList=([105,102,100,101,102]:List UInt8) then (some true) else (some (a0.toList==([105,102,110,100,101,102]:List UInt8))))
theorem jA.calls (a0:ByteArray)(r:Bool)(w:World)(h:jA.f a0=some r):
 Calls Tryz.prog 68 #[.string a0] w fun e w'=>e= .returned (.bool r)∧dM w w':=by
 have H:=h
 clear h
 unfold jA.f at H
 replace H:=zE H
 rcases H with ⟨c2b0,c2b1,H⟩|⟨c2b0,c2b1,H⟩
 · obtain rfl:=Option.some.inj H
   go_enter Tryz.func68,Tryz.ntmps68
   go_wp2
   go_ret
   exact ⟨zr,zq⟩
 · replace H:=zE H
   rcases H with ⟨c3b0,c3b1,H⟩|⟨c3b0,c3b1,H⟩
   · obtain rfl:=Option.some.inj H
     go_enter Tryz.func68,Tryz.ntmps68
     go_wp2
     go_ret
     exact ⟨zr,zq⟩
   · obtain rfl:=Option.some.inj H
     go_enter Tryz.func68,Tryz.ntmps68
     go_wp2
     go_ret
     exact ⟨zr,zq⟩
end Go.Proofs.YtolaiebjmhieiaaGreatDoor.OCond
end
section
namespace Go.Proofs.YtolaiebjmhieiaaGreatDoor.OScan
open Go.RowKit YtolaiebjmhieiaaGreatDoorW.PrintWords YtolaiebjmhieiaaGreatDoorW.PrintLast YtolaiebjmhieiaaGreatDoorW.PrintMore
abbrev Gr:=List Int × Int × Int × Int
abbrev Ope:=Nat × Int × Bool
abbrev kGr:Kd Gr:=Kd.pair (Kd.slice 3 (Kd.int .i64)) (Kd.pair (Kd.int .i64) (Kd.pair (Kd.int .i64) (Kd.int .i64)))
def Chain (w:World)(base:Nat):Nat→Value→List Ope→Prop
 |_,p,[]=>p= .pointer none
 |N,p,x::st=>∃g q,p= .pointer (some ⟨g,0,none⟩)∧base≤g∧g<N∧w.heap[g]? =some (.cells #[.int .i64 x.1,.int .i64 x.2.1,.bool x.2.2,q] 136 (0,0))∧Chain w base g q st
theorem Chain.step {w w1:World}{base:Nat}:∀{st:List Ope} {N N':Nat} {p:Value},Chain w base N p st→N≤N'→(∀k,base≤k→k<N→(∃c,w.heap[k]? =some (.cells c 136 (0,0)))→w1.heap[k]? =w.heap[k]?)→Chain w1 base N' p st
 |[],_,_,_,h,_,_=>h
 |x::st,N,N',p,⟨g,q,e,h1,h2,h3,h4⟩,hN,hk=>⟨g,q,e,h1,by omega,(hk g h1 h2 ⟨_,h3⟩).trans h3,h4.step (Nat.le_refl _) (fun k a b c=>hk k a (by omega) c)⟩
structure FS (base F:Nat)(w:World)(v p:Value)(gs:List Gr)(st:List Ope):Prop where
 hF:base≤F
 hc:w.heap[F]? =some (.cells #[v,p] 131 (0,0))
 hgs:Kd.S kGr 134 w base (fun _=>True) v gs
 hst:Chain w base w.heap.size p st
 wf:∀x∈st,x.1<gs.length
def oK (at_:Int)(gs:List Gr)(st:List Ope):List Gr × List Ope:=
 (gs++[([at_],0,(match st with|[]=> -1|x::_=>(x.1:Int)),(match st with|[]=>0|x::_=>x.2.1))],(gs.length,0,false)::st)
theorem wR {w:World}{base L:Nat}{a:Int}(h:w.heap[L]? =some (.cells #[Value.int IntKind.i64 a] 3 (0,0)))(hb:base≤L):
 Kd.R (Kd.int .i64) 3 w base (fun k=>k=L) (.slice (some ⟨L,0,none⟩) 1 1) [a]:=by
 exact Kd.mY (enc:=Value.int .i64) (h1:=fun _=>rfl) ⟨rfl,.inr ⟨L,1,#[Value.int IntKind.i64 a],rfl,hb,h,Nat.le_refl _,by decide,rfl,rfl⟩⟩ (fun k hk=>by simpa [Value.ownBlock] using hk.symm)
theorem zN {base F O:Nat}{w W3 w6:World}{v p v1:Value}{gs:List Gr}{st:List Ope}{x:Gr}(HF:FS base F w v p gs st)
 (hF3:W3.heap[F]? =some (.cells #[v,.pointer (some ⟨O,0,none⟩)] 131 (0,0))) (hO3:W3.heap[O]? =some (.cells #[.int .i64 gs.length,.int .i64 0,.bool false,p] 136 (0,0)))
 (hO:w.heap.size≤O) (hk3:∀k,k<w.heap.size→k≠F→W3.heap[k]? =w.heap[k]?) (hs3:w.heap.size≤W3.heap.size)
 (ho:Kd.S kGr 134 w6 base (fun _=>True) v1 (gs++[x])) (hg:World.grownBy W3.drew w6 v.ownBlock):
 FS base F (w6.setCell ⟨F,0,none⟩ v1) v1 (.pointer (some ⟨O,0,none⟩)) (gs++[x]) ((gs.length,0,false)::st):=by
 have hFF:=HF.hc
 have hFl:=aT hFF
 have hnF:some F≠v.ownBlock:=Kd.MG HF.hgs hFF (by decide)
 have hF6:w6.heap[F]? =some (.cells #[v,.pointer (some ⟨O,0,none⟩)] 131 (0,0)):=(hg.block F (aT hF3) hnF).trans hF3
 have hlt:∀k,v.ownBlock=some k→k<w.heap.size:=Kd.Ja HF.hgs
 have hty:∀k,v.ownBlock=some k→∃cells,w.heap[k]? =some (.cells cells 134 (0,0)):=Kd.kE HF.hgs
 have hO6:w6.heap[O]? =some (.cells #[.int .i64 gs.length,.int .i64 0,.bool false,p] 136 (0,0)):=(hg.block O (aT hO3) (fun e=>by have:=hlt O e.symm;omega)).trans hO3
 refine ⟨HF.hF,dR hF6 0 _ rfl,Kd.xG ho hF6 (by decide) 0 _,⟨O,p,rfl,by have:=HF.hF;omega,by have:=aT hO6;simpa using this,dX hO6 (by show O≠F;omega) _,?_⟩,?_⟩
 · refine HF.hst.step hO (fun k h1 h2 h3=> ?_)
   obtain ⟨c,h3⟩:=h3
   have hkF:k≠F:=by
    rintro rfl
    rw [hFF] at h3
    injection h3 with h3
    injection h3 with _ h3
    exact absurd h3 (by decide)
   have hkv:some k≠v.ownBlock:=fun e=>by
    obtain ⟨c',h4⟩:=hty k e.symm
    rw [h4] at h3
    injection h3 with h3
    injection h3 with _ h3
    exact absurd h3 (by decide)
   exact (Below.heap_setCell w6 ⟨F,0,none⟩ _ k hkF).trans ((hg.block k (show k<W3.heap.size by omega) hkv).trans (hk3 k h2 hkF))
 · intro y hy
   rw [List.length_append,List.length_singleton]
   rcases List.mem_cons.1 hy with rfl|hy
   · show gs.length<_;omega
   · have:=HF.wf y hy;omega
theorem Gm (at_:Int)(base F:Nat)(w0 w:World)(v:Value)(gs:List Gr)(HF:FS base F w v (.pointer none) gs [])(HB:Below base w0 w)(hl:gs.length≤1000000):
 Calls Tryz.prog 125 #[.pointer (some ⟨F,0,none⟩),.int .i64 at_] w fun e w'=>e= .returned (.tuple #[])∧∃v' p',FS base F w' v' p' (oK at_ gs []).1 (oK at_ gs []).2∧Below base w0 w':=by
 have hFF:=HF.hc
 have hFl:=aT hFF
 have hg0:w.cell? ⟨F,0,none⟩=some v:=by have:=cell_of_row w F 0 _ _ _ hFF;simpa using this
 have hg1:w.cell? ⟨F,1,none⟩=some (.pointer none):=by have:=cell_of_row w F 1 _ _ _ hFF;simpa using this
 obtain ⟨A0,c0,rfl⟩:=Kd.sN HF.hgs
 go_enter Tryz.func125,Tryz.ntmps125
 go_wp2
 obtain ⟨W1,hW1⟩:∃W1,W1=((w.alloc (Obj.cells #[Value.int IntKind.i64 at_] 3)).alloc (Obj.cells #[Value.slice (some {block:=w.heap.size,off:=0}) 1 1,Value.int IntKind.i64 0,Value.int IntKind.i64 (-1),Value.int IntKind.i64 0] 134)):=⟨_,rfl⟩
 rw [←hW1]
 have hB1:Below w.heap.size w W1:=by rw [hW1];exact aA (aA (Below.refl _ _) _) _
 have hs1:W1.heap.size=w.heap.size+2:=by rw [hW1,bT,bT]
 obtain ⟨G,hG⟩:∃G,G=w.heap.size+1:=⟨_,rfl⟩
 rw [←hG]
 have hGc:W1.heap[G]? =some (.cells #[Value.slice (some {block:=w.heap.size,off:=0}) 1 1,Value.int IntKind.i64 0,Value.int IntKind.i64 (-1),Value.int IntKind.i64 0] 134 (0,0)):=by
  rw [hW1,hG,←bT w (Obj.cells #[Value.int IntKind.i64 at_] 3)]
  exact dh _ _
 have hLc:W1.heap[w.heap.size]? =some (.cells #[Value.int IntKind.i64 at_] 3 (0,0)):=by
  rw [hW1,Below.heap_alloc _ _ _ (by rw [bT];omega)]
  exact dh _ _
 clear hW1
 have HG_:=z0 hG
 have HS1:=z0 hs1
 clear hG
 have k0:W1.cell? ⟨F,0,none⟩=some (.slice A0 gs.length c0):=(hB1.cell hFl).trans hg0
 have k1:W1.cell? ⟨F,1,none⟩=some (.pointer none):=(hB1.cell hFl).trans hg1
 have o1:(W1.alloc (Obj.cells #[Value.int IntKind.i64 (gs.length:Int),Value.int IntKind.i64 0,Value.bool false,Value.pointer none] 136)).heap[F]? =some (.cells #[.slice A0 gs.length c0,.pointer none] 131 (0,0)):=dN ((hB1.block F hFl).trans hFF) _
 have q1:(W1.alloc (Obj.cells #[Value.int IntKind.i64 (gs.length:Int),Value.int IntKind.i64 0,Value.bool false,Value.pointer none] 136)).cell? ⟨F,1,none⟩=some (.pointer none):=by have:=cell_of_row _ F 1 _ _ _ o1;simpa using this
 have q2:=aj o1 1
 go_region
 obtain ⟨W2,hW2⟩:∃W2,W2=W1.alloc (Obj.cells #[Value.int IntKind.i64 (gs.length:Int),Value.int IntKind.i64 0,Value.bool false,Value.pointer none] 136):=⟨_,rfl⟩
 rw [←hW2]
 have hO2:W2.heap[w.heap.size+2]? =some (.cells #[Value.int IntKind.i64 (gs.length:Int),Value.int IntKind.i64 0,Value.bool false,Value.pointer none] 136 (0,0)):=by rw [hW2,←hs1];exact dh _ _
 obtain ⟨O,hO⟩:∃O,O=w.heap.size+2:=⟨_,rfl⟩
 rw [←hO] at hO2 ⊢
 have HO_:=z0 hO
 clear hO
 have hF2:W2.heap[F]? =some (.cells #[.slice A0 gs.length c0,.pointer none] 131 (0,0)):=by rw [hW2];exact o1
 have hG2:=dN hGc (Obj.cells #[Value.int IntKind.i64 (gs.length:Int),Value.int IntKind.i64 0,Value.bool false,Value.pointer none] 136)
 have hL2:=dN hLc (Obj.cells #[Value.int IntKind.i64 (gs.length:Int),Value.int IntKind.i64 0,Value.bool false,Value.pointer none] 136)
 rw [←hW2] at hG2 hL2
 have hB2:Below w.heap.size w W2:=by rw [hW2];exact aA hB1 _
 have hs2:W2.heap.size=w.heap.size+3:=by rw [hW2,bT,hs1]
 have hS2:Kd.S kGr 134 W2 base (fun k=>True∧¬k=w.heap.size) (.slice A0 gs.length c0) gs:=Kd.qj (Kd.ru (Kd.vH HF.hgs) (fun k hk=>⟨trivial,by have:=hk.2.2.1;omega⟩)) hB2
 clear o1 q1 q2 hW2 k0 k1
 obtain ⟨W3,hW3⟩:∃W3,W3=(W2.setCell ⟨F,1,none⟩ (.pointer (some ⟨O,0,none⟩))).drew:=⟨_,rfl⟩
 rw [←hW3]
 have hF3:W3.heap[F]? =some (.cells #[.slice A0 gs.length c0,.pointer (some ⟨O,0,none⟩)] 131 (0,0)):=by rw [hW3];exact dF (dR hF2 1 _ rfl)
 have hO3:W3.heap[O]? =some (.cells #[Value.int IntKind.i64 (gs.length:Int),Value.int IntKind.i64 0,Value.bool false,Value.pointer none] 136 (0,0)):=by rw [hW3];exact dF (dX hO2 (by show O≠F;have:=HO_.out;omega) _)
 have hG3:=dF (dX (p:=⟨F,1,none⟩) hG2 (by show G≠F;have:=HG_.out;omega) (.pointer (some ⟨O,0,none⟩)))
 have hL3:=dF (dX (p:=⟨F,1,none⟩) hL2 (by show w.heap.size≠F;omega) (.pointer (some ⟨O,0,none⟩)))
 rw [←hW3] at hG3 hL3
 have hS3:Kd.S kGr 134 W3 base (fun k=>True∧¬k=w.heap.size) (.slice A0 gs.length c0) gs:=by
  rw [hW3];exact Kd.AQ (Kd.xG hS2 hF2 (by decide) 1 _)
 have hs3:W3.heap.size=w.heap.size+3:=by rw [hW3];show (W2.setCell _ _).heap.size=_;simp;exact hs2
 have hB3:Below base w0 W3:=by rw [hW3];exact oJ ((HB.trans ⟨hB2.os,hB2.tape,hB2.output,hB2.size,fun k hk=>hB2.block k (by have:=HF.hF;omega)⟩).setCell HF.hF _)
 have hk3:∀k,k<w.heap.size→k≠F→W3.heap[k]? =w.heap[k]? :=fun k hk hn=>by rw [hW3];exact (Below.heap_setCell W2 ⟨F,1,none⟩ _ k hn).trans (hB2.block k hk)
 have HS3:=z0 hs3
 have HS_3:=z0 hS3
 have HK3:=z0 hk3
 have HB3:=z0 hB3
 clear hW3 hs3 hs1 HS1 hS3 hk3 hB3 hS2 hL2 hG2 hO2 hF2 hB2 hs2
 have g0:W3.drew.cell? ⟨F,0,none⟩=some (.slice A0 gs.length c0):=by have:=cell_of_row _ F 0 _ _ _ (dF hF3);simpa using this
 have g2:W3.drew.cell? ⟨G,0,none⟩=some (Value.slice (some {block:=w.heap.size,off:=0}) 1 1):=by have:=cell_of_row _ G 0 _ _ _ (dF hG3);simpa using this
 have g3:W3.drew.cell? ⟨G,1,none⟩=some (.int .i64 0):=by have:=cell_of_row _ G 1 _ _ _ (dF hG3);simpa using this
 have g4:W3.drew.cell? ⟨G,2,none⟩=some (.int .i64 (-1)):=by have:=cell_of_row _ G 2 _ _ _ (dF hG3);simpa using this
 have g5:W3.drew.cell? ⟨G,3,none⟩=some (.int .i64 0):=by have:=cell_of_row _ G 3 _ _ _ (dF hG3);simpa using this
 have g6:(W3.alloc (Obj.cells #[Value.slice (some {block:=w.heap.size,off:=0}) 1 1,Value.int IntKind.i64 0,Value.int IntKind.i64 (-1),Value.int IntKind.i64 0] 134)).cell? ⟨F,0,none⟩=some (.slice A0 gs.length c0):=by have:=cell_of_row _ F 0 _ _ _ (dN hF3 (Obj.cells #[Value.slice (some {block:=w.heap.size,off:=0}) 1 1,Value.int IntKind.i64 0,Value.int IntKind.i64 (-1),Value.int IntKind.i64 0] 134));simpa using this
 have HNE:ah ((Value.slice A0 gs.length c0).ownBlock≠some w.heap.size):=⟨fun e=>by have:=Kd.Ja HF.hgs _ e;omega⟩
 have hty:∀k,(Value.slice A0 gs.length c0).ownBlock=some k→∃cells,w.heap[k]? =some (.cells cells 134 (0,0)):=Kd.kE HF.hgs
 have hnF:some F≠(Value.slice A0 gs.length c0).ownBlock:=Kd.MG HF.hgs hFF (by decide)
 have HCF:ah (∀w6,World.grownBy W3.drew w6 (Value.slice A0 gs.length c0).ownBlock→w6.cell? ⟨F,0,none⟩=some (.slice A0 gs.length c0)∧w6.frozen? ⟨F,0,none⟩=false):=⟨fun w6 hg=>by
  have h6:w6.heap[F]? =some (.cells #[.slice A0 gs.length c0,.pointer (some ⟨O,0,none⟩)] 131 (0,0)):=(hg.block F (aT hF3) hnF).trans hF3
  exact ⟨by have:=cell_of_row _ F 0 _ _ _ h6;simpa using this,aj h6 0⟩⟩
 have HSZ:ah (base≤W3.drew.heap.size):=⟨by show base≤W3.heap.size;rw [HS3.out];have:=HF.hF;omega⟩
 have HP:ah (kGr.M W3.drew base (fun k=>k=w.heap.size) ([at_],0, -1,0) [Value.slice (some {block:=w.heap.size,off:=0}) 1 1,.int .i64 0,.int .i64 (-1),.int .i64 0]):=
  ⟨⟨[Value.slice (some {block:=w.heap.size,off:=0}) 1 1],_,rfl,⟨_,rfl,wR (dF hL3) (by have:=HF.hF;omega)⟩,⟨[.int .i64 0],_,rfl,rfl,⟨[.int .i64 (-1)],_,rfl,rfl,rfl⟩⟩⟩⟩
 go_wp2
 go_region_law ((first|refine Kd.qH kGr (w0:=w0) (W:=W3.drew) base (by rfl) (.tmp 47) (.tmp 49) 91 134 (.agg #[(.slice none 0 0),(.int .i64 0),(.int .i64 0),(.int .i64 0)]) 48 ?aH Tryz.underlying91 (by kernel_rfl) rfl (by decide) (by omega) (.slice A0 gs.length c0) gs ([at_],0, -1,0) [Value.slice (some {block:=w.heap.size,off:=0}) 1 1,.int .i64 0,.int .i64 (-1),.int .i64 0] (fun _=>True) (fun k=>k=w.heap.size) ?aV ?aX ?aP ?aK (fun _ _=>trivial) ?aO ?aB ?aS ?aL ?_);(case aH=>rfl);(case aV=>rfl);(case aX=>rfl);(case aO=>exact Kd.AQ HS_3.out);(case aB=>exact fE HB3.out);(case aL=>show (gs.length+1)*48≤_;omega);(case aS=>exact HSZ.out);(case aK=>rintro k rfl;exact ⟨trivial,fun e=>HNE.out e.symm⟩);(case aP=>exact HP.out);intro v1 w6 ho hb hg hat;obtain ⟨A1,c1,rfl⟩:=Kd.sN ho;clear HS_3 HB3 HP;have r0:w6.cell? ⟨F,0,none⟩=some (.slice A0 gs.length c0):=(HCF.out w6 hg).1;have r1:=(HCF.out w6 hg).2;have HO6:=z0 ho;have HB6:=z0 hb;have HG6:=z0 hg;clear ho hb hg hat)
 all_goals go_end0
 all_goals
  have h6:Kd.S kGr 134 w6 base (fun _=>True) (.slice A1 (gs.length+1) c1) (gs++[([at_],0, -1,0)]):=by have:=HO6.out;rwa [List.length_append,List.length_singleton] at this
  exact ⟨rfl,_,_,zN HF hF3 hO3 (by have:=HO_.out;omega) HK3.out (by have:=HS3.out;omega) h6 HG6.out,HB6.out.setCell HF.hF _⟩
theorem Eb (at_:Int)(base F:Nat)(w0 w:World)(v p:Value)(gs:List Gr)(n:Nat)(br:Int)(hs_:Bool)(st:List Ope)(HF:FS base F w v p gs ((n,br,hs_)::st))(HB:Below base w0 w)(hl:gs.length≤1000000):
 Calls Tryz.prog 125 #[.pointer (some ⟨F,0,none⟩),.int .i64 at_] w fun e w'=>e= .returned (.tuple #[])∧∃v' p',FS base F w' v' p' (oK at_ gs ((n,br,hs_)::st)).1 (oK at_ gs ((n,br,hs_)::st)).2∧Below base w0 w':=by
 have hFF:=HF.hc
 have hFl:=aT hFF
 have hg0:w.cell? ⟨F,0,none⟩=some v:=by have:=cell_of_row w F 0 _ _ _ hFF;simpa using this
 obtain ⟨P,q0,rfl,hP0,hP1,hP2,hP3⟩:=HF.hst
 simp only at hP2
 have hg1:w.cell? ⟨F,1,none⟩=some (.pointer (some ⟨P,0,none⟩)):=by have:=cell_of_row w F 1 _ _ _ hFF;simpa using this
 obtain ⟨A0,c0,rfl⟩:=Kd.sN HF.hgs
 go_enter Tryz.func125,Tryz.ntmps125
 go_wp2
 obtain ⟨Wa,hWa⟩:∃Wa,Wa=((w.alloc (Obj.cells #[Value.int IntKind.i64 at_] 3)).alloc (Obj.cells #[Value.slice (some {block:=w.heap.size,off:=0}) 1 1,Value.int IntKind.i64 0,Value.int IntKind.i64 (-1),Value.int IntKind.i64 0] 134)):=⟨_,rfl⟩
 rw [←hWa]
 have hBa:Below w.heap.size w Wa:=by rw [hWa];exact aA (aA (Below.refl _ _) _) _
 have hsa:Wa.heap.size=w.heap.size+2:=by rw [hWa,bT,bT]
 obtain ⟨G,hG⟩:∃G,G=w.heap.size+1:=⟨_,rfl⟩
 rw [←hG]
 have hGa:Wa.heap[G]? =some (.cells #[Value.slice (some {block:=w.heap.size,off:=0}) 1 1,Value.int IntKind.i64 0,Value.int IntKind.i64 (-1),Value.int IntKind.i64 0] 134 (0,0)):=by
  rw [hWa,hG,←bT w (Obj.cells #[Value.int IntKind.i64 at_] 3)]
  exact dh _ _
 have hLa:Wa.heap[w.heap.size]? =some (.cells #[Value.int IntKind.i64 at_] 3 (0,0)):=by
  rw [hWa,Below.heap_alloc _ _ _ (by rw [bT];omega)]
  exact dh _ _
 clear hWa
 have HG_:=z0 hG
 have HSa:=z0 hsa
 clear hG
 have z1:Wa.cell? ⟨F,1,none⟩=some (.pointer (some ⟨P,0,none⟩)):=(hBa.cell hFl).trans hg1
 have z2:Wa.cell? ⟨P,0,none⟩=some (.int .i64 n):=(hBa.cell hP1).trans (by have:=cell_of_row w P 0 _ _ _ hP2;simpa using this)
 have z3:Wa.cell? ⟨P,1,none⟩=some (.int .i64 br):=(hBa.cell hP1).trans (by have:=cell_of_row w P 1 _ _ _ hP2;simpa using this)
 have z4:Wa.cell? ⟨G,2,none⟩=some (.int .i64 (-1)):=by have:=cell_of_row Wa G 2 _ _ _ hGa;simpa using this
 have z5:Wa.cell? ⟨G,3,none⟩=some (.int .i64 0):=by have:=cell_of_row Wa G 3 _ _ _ hGa;simpa using this
 have z6:=aj hGa 2
 have z7:=aj hGa 3
 go_region
 obtain ⟨W1,hW1⟩:∃W1,W1=((Wa.setCell ⟨G,2,none⟩ (.int .i64 n)).setCell ⟨G,3,none⟩ (.int .i64 br)).drew:=⟨_,rfl⟩
 rw [←hW1]
 have hwG:w.heap.size≤G:=by have:=HG_.out;omega
 have hB1:Below w.heap.size w W1:=by rw [hW1];exact fE ((hBa.setCell hwG _).setCell hwG _)
 have hs1:W1.heap.size=w.heap.size+2:=by rw [hW1];show ((Wa.setCell _ _).setCell _ _).heap.size=_;simp;exact HSa.out
 have hGc:W1.heap[G]? =some (.cells #[Value.slice (some {block:=w.heap.size,off:=0}) 1 1,Value.int IntKind.i64 0,Value.int IntKind.i64 n,Value.int IntKind.i64 br] 134 (0,0)):=by rw [hW1];exact dF (dR (dR hGa 2 _ rfl) 3 _ rfl)
 have hLc:W1.heap[w.heap.size]? =some (.cells #[Value.int IntKind.i64 at_] 3 (0,0)):=by rw [hW1];exact dF (dX (dX hLa (by show w.heap.size≠G;have:=HG_.out;omega) _) (by show w.heap.size≠G;have:=HG_.out;omega) _)
 have HS1:=z0 hs1
 clear hW1 z1 z2 z3 z4 z5 z6 z7 hsa HSa
 go_wp2
 have k0:W1.cell? ⟨F,0,none⟩=some (.slice A0 gs.length c0):=(hB1.cell hFl).trans hg0
 have k1:W1.cell? ⟨F,1,none⟩=some (.pointer (some ⟨P,0,none⟩)):=(hB1.cell hFl).trans hg1
 have o1:(W1.alloc (Obj.cells #[Value.int IntKind.i64 (gs.length:Int),Value.int IntKind.i64 0,Value.bool false,Value.pointer (some ⟨P,0,none⟩)] 136)).heap[F]? =some (.cells #[.slice A0 gs.length c0,.pointer (some ⟨P,0,none⟩)] 131 (0,0)):=dN ((hB1.block F hFl).trans hFF) _
 have q1:(W1.alloc (Obj.cells #[Value.int IntKind.i64 (gs.length:Int),Value.int IntKind.i64 0,Value.bool false,Value.pointer (some ⟨P,0,none⟩)] 136)).cell? ⟨F,1,none⟩=some (.pointer (some ⟨P,0,none⟩)):=by have:=cell_of_row _ F 1 _ _ _ o1;simpa using this
 have q2:=aj o1 1
 go_region
 obtain ⟨W2,hW2⟩:∃W2,W2=W1.alloc (Obj.cells #[Value.int IntKind.i64 (gs.length:Int),Value.int IntKind.i64 0,Value.bool false,Value.pointer (some ⟨P,0,none⟩)] 136):=⟨_,rfl⟩
 rw [←hW2]
 have hO2:W2.heap[w.heap.size+2]? =some (.cells #[Value.int IntKind.i64 (gs.length:Int),Value.int IntKind.i64 0,Value.bool false,Value.pointer (some ⟨P,0,none⟩)] 136 (0,0)):=by rw [hW2,←hs1];exact dh _ _
 obtain ⟨O,hO⟩:∃O,O=w.heap.size+2:=⟨_,rfl⟩
 rw [←hO] at hO2 ⊢
 have HO_:=z0 hO
 clear hO
 have hF2:W2.heap[F]? =some (.cells #[.slice A0 gs.length c0,.pointer (some ⟨P,0,none⟩)] 131 (0,0)):=by rw [hW2];exact o1
 have hG2:=dN hGc (Obj.cells #[Value.int IntKind.i64 (gs.length:Int),Value.int IntKind.i64 0,Value.bool false,Value.pointer (some ⟨P,0,none⟩)] 136)
 have hL2:=dN hLc (Obj.cells #[Value.int IntKind.i64 (gs.length:Int),Value.int IntKind.i64 0,Value.bool false,Value.pointer (some ⟨P,0,none⟩)] 136)
 rw [←hW2] at hG2 hL2
 have hB2:Below w.heap.size w W2:=by rw [hW2];exact aA hB1 _
 have hs2:W2.heap.size=w.heap.size+3:=by rw [hW2,bT,hs1]
 have hS2:Kd.S kGr 134 W2 base (fun k=>True∧¬k=w.heap.size) (.slice A0 gs.length c0) gs:=Kd.qj (Kd.ru (Kd.vH HF.hgs) (fun k hk=>⟨trivial,by have:=hk.2.2.1;omega⟩)) hB2
 clear o1 q1 q2 hW2 k0 k1
 obtain ⟨W3,hW3⟩:∃W3,W3=(W2.setCell ⟨F,1,none⟩ (.pointer (some ⟨O,0,none⟩))).drew:=⟨_,rfl⟩
 rw [←hW3]
 have hF3:W3.heap[F]? =some (.cells #[.slice A0 gs.length c0,.pointer (some ⟨O,0,none⟩)] 131 (0,0)):=by rw [hW3];exact dF (dR hF2 1 _ rfl)
 have hO3:W3.heap[O]? =some (.cells #[Value.int IntKind.i64 (gs.length:Int),Value.int IntKind.i64 0,Value.bool false,Value.pointer (some ⟨P,0,none⟩)] 136 (0,0)):=by rw [hW3];exact dF (dX hO2 (by show O≠F;have:=HO_.out;omega) _)
 have hG3:=dF (dX (p:=⟨F,1,none⟩) hG2 (by show G≠F;have:=HG_.out;omega) (.pointer (some ⟨O,0,none⟩)))
 have hL3:=dF (dX (p:=⟨F,1,none⟩) hL2 (by show w.heap.size≠F;omega) (.pointer (some ⟨O,0,none⟩)))
 rw [←hW3] at hG3 hL3
 have hS3:Kd.S kGr 134 W3 base (fun k=>True∧¬k=w.heap.size) (.slice A0 gs.length c0) gs:=by
  rw [hW3];exact Kd.AQ (Kd.xG hS2 hF2 (by decide) 1 _)
 have hs3:W3.heap.size=w.heap.size+3:=by rw [hW3];show (W2.setCell _ _).heap.size=_;simp;exact hs2
 have hB3:Below base w0 W3:=by rw [hW3];exact oJ ((HB.trans ⟨hB2.os,hB2.tape,hB2.output,hB2.size,fun k hk=>hB2.block k (by have:=HF.hF;omega)⟩).setCell HF.hF _)
 have hk3:∀k,k<w.heap.size→k≠F→W3.heap[k]? =w.heap[k]? :=fun k hk hn=>by rw [hW3];exact (Below.heap_setCell W2 ⟨F,1,none⟩ _ k hn).trans (hB2.block k hk)
 have HS3:=z0 hs3
 have HS_3:=z0 hS3
 have HK3:=z0 hk3
 have HB3:=z0 hB3
 clear hW3 hs3 hs1 HS1 hS3 hk3 hB3 hS2 hL2 hG2 hO2 hF2 hB2 hs2
 have g0:W3.drew.cell? ⟨F,0,none⟩=some (.slice A0 gs.length c0):=by have:=cell_of_row _ F 0 _ _ _ (dF hF3);simpa using this
 have g2:W3.drew.cell? ⟨G,0,none⟩=some (Value.slice (some {block:=w.heap.size,off:=0}) 1 1):=by have:=cell_of_row _ G 0 _ _ _ (dF hG3);simpa using this
 have g3:W3.drew.cell? ⟨G,1,none⟩=some (.int .i64 0):=by have:=cell_of_row _ G 1 _ _ _ (dF hG3);simpa using this
 have g4:W3.drew.cell? ⟨G,2,none⟩=some (.int .i64 n):=by have:=cell_of_row _ G 2 _ _ _ (dF hG3);simpa using this
 have g5:W3.drew.cell? ⟨G,3,none⟩=some (.int .i64 br):=by have:=cell_of_row _ G 3 _ _ _ (dF hG3);simpa using this
 have g6:(W3.alloc (Obj.cells #[Value.slice (some {block:=w.heap.size,off:=0}) 1 1,Value.int IntKind.i64 0,Value.int IntKind.i64 n,Value.int IntKind.i64 br] 134)).cell? ⟨F,0,none⟩=some (.slice A0 gs.length c0):=by have:=cell_of_row _ F 0 _ _ _ (dN hF3 (Obj.cells #[Value.slice (some {block:=w.heap.size,off:=0}) 1 1,Value.int IntKind.i64 0,Value.int IntKind.i64 n,Value.int IntKind.i64 br] 134));simpa using this
 have HNE:ah ((Value.slice A0 gs.length c0).ownBlock≠some w.heap.size):=⟨fun e=>by have:=Kd.Ja HF.hgs _ e;omega⟩
 have hty:∀k,(Value.slice A0 gs.length c0).ownBlock=some k→∃cells,w.heap[k]? =some (.cells cells 134 (0,0)):=Kd.kE HF.hgs
 have hnF:some F≠(Value.slice A0 gs.length c0).ownBlock:=Kd.MG HF.hgs hFF (by decide)
 have HCF:ah (∀w6,World.grownBy W3.drew w6 (Value.slice A0 gs.length c0).ownBlock→w6.cell? ⟨F,0,none⟩=some (.slice A0 gs.length c0)∧w6.frozen? ⟨F,0,none⟩=false):=⟨fun w6 hg=>by
  have h6:w6.heap[F]? =some (.cells #[.slice A0 gs.length c0,.pointer (some ⟨O,0,none⟩)] 131 (0,0)):=(hg.block F (aT hF3) hnF).trans hF3
  exact ⟨by have:=cell_of_row _ F 0 _ _ _ h6;simpa using this,aj h6 0⟩⟩
 have HSZ:ah (base≤W3.drew.heap.size):=⟨by show base≤W3.heap.size;rw [HS3.out];have:=HF.hF;omega⟩
 have HP:ah (kGr.M W3.drew base (fun k=>k=w.heap.size) ([at_],0,(n:Int),br) [Value.slice (some {block:=w.heap.size,off:=0}) 1 1,.int .i64 0,.int .i64 n,.int .i64 br]):=
  ⟨⟨[Value.slice (some {block:=w.heap.size,off:=0}) 1 1],_,rfl,⟨_,rfl,wR (dF hL3) (by have:=HF.hF;omega)⟩,⟨[.int .i64 0],_,rfl,rfl,⟨[.int .i64 n],_,rfl,rfl,rfl⟩⟩⟩⟩
 go_wp2
 go_region_law ((first|refine Kd.qH kGr (w0:=w0) (W:=W3.drew) base (by rfl) (.tmp 47) (.tmp 49) 91 134 (.agg #[(.slice none 0 0),(.int .i64 0),(.int .i64 0),(.int .i64 0)]) 48 ?aH Tryz.underlying91 (by kernel_rfl) rfl (by decide) (by omega) (.slice A0 gs.length c0) gs ([at_],0,(n:Int),br) [Value.slice (some {block:=w.heap.size,off:=0}) 1 1,.int .i64 0,.int .i64 n,.int .i64 br] (fun _=>True) (fun k=>k=w.heap.size) ?aV ?aX ?aP ?aK (fun _ _=>trivial) ?aO ?aB ?aS ?aL ?_);(case aH=>rfl);(case aV=>rfl);(case aX=>rfl);(case aO=>exact Kd.AQ HS_3.out);(case aB=>exact fE HB3.out);(case aL=>show (gs.length+1)*48≤_;omega);(case aS=>exact HSZ.out);(case aK=>rintro k rfl;exact ⟨trivial,fun e=>HNE.out e.symm⟩);(case aP=>exact HP.out);intro v1 w6 ho hb hg hat;obtain ⟨A1,c1,rfl⟩:=Kd.sN ho;clear HS_3 HB3 HP;have r0:w6.cell? ⟨F,0,none⟩=some (.slice A0 gs.length c0):=(HCF.out w6 hg).1;have r1:=(HCF.out w6 hg).2;have HO6:=z0 ho;have HB6:=z0 hb;have HG6:=z0 hg;clear ho hb hg hat)
 all_goals go_end0
 all_goals
  have h6:Kd.S kGr 134 w6 base (fun _=>True) (.slice A1 (gs.length+1) c1) (gs++[([at_],0,(n:Int),br)]):=by have:=HO6.out;rwa [List.length_append,List.length_singleton] at this
  exact ⟨rfl,_,_,zN HF hF3 hO3 (by have:=HO_.out;omega) HK3.out (by have:=HS3.out;omega) h6 HG6.out,HB6.out.setCell HF.hF _⟩
theorem Gn (at_:Int)(base F:Nat)(w0 w:World)(v p:Value)(gs:List Gr)(st:List Ope)(HF:FS base F w v p gs st)(HB:Below base w0 w)(hl:gs.length≤1000000):
 Calls Tryz.prog 125 #[.pointer (some ⟨F,0,none⟩),.int .i64 at_] w fun e w'=>e= .returned (.tuple #[])∧∃v' p',FS base F w' v' p' (oK at_ gs st).1 (oK at_ gs st).2∧Below base w0 w':=by
 cases st with
 |nil=>
  obtain rfl:p= .pointer none:=HF.hst
  exact Gm at_ base F w0 w v gs HF HB hl
 |cons x st=>exact Eb at_ base F w0 w v p gs x.1 x.2.1 x.2.2 st HF HB hl
def je (a:ByteArray):Bool:=a.toList==([105,102]:List UInt8)||(a.toList==([105,102,100,101,102]:List UInt8)||a.toList==([105,102,110,100,101,102]:List UInt8))
theorem rQ (a:ByteArray):OCond.jA.f a=some (je a):=by
 unfold OCond.jA.f je
 by_cases h1:a.toList=([105,102]:List UInt8)
 · simp [h1]
 · by_cases h2:a.toList=([105,102,100,101,102]:List UInt8)
   · simp [h2]
   · rw [if_neg h1,if_neg h2,beq_eq_false_iff_ne.mpr h1,beq_eq_false_iff_ne.mpr h2,Bool.false_or,Bool.false_or]
abbrev jI:List UInt8:=[101,108,105,102]
abbrev jl:List UInt8:=[101,108,115,101]
abbrev gU:List UInt8:=[101,110,100,105,102]
def fV (gs:List Gr)(n:Nat):Gr:=gs.getD n ([],0,0,0)
def EH (at_:Int)(gs:List Gr)(n:Nat):List Gr:=gs.set n ((fV gs n).1++[at_],(fV gs n).2)
def ji (kind:ByteArray)(at_:Int)(gs:List Gr)(st:List Ope):Option (List Gr × List Ope):=
 if je kind=true then some (oK at_ gs st)
 else if kind.toList≠jI∧kind.toList≠jl∧kind.toList≠gU then some (gs,st)
 else match st with
 |[]=>none
 |x::st'=>
  if x.2.2=true∧kind.toList≠gU then none
  else if kind.toList≠gU then some (EH at_ gs x.1,(x.1,wrap64 (x.2.1+1),kind.toList==jl)::st')
  else some (gs.set x.1 ((fV gs x.1).1++[at_],((fV gs x.1).1.length:Int)+(if x.2.2=true then 0 else 1),(fV gs x.1).2.2),st')
def EY (base F:Nat)(w0:World)(r:Option (List Gr × List Ope))(e:Ending)(w':World):Prop:=
 match r with
 |none=>e= .returned (.bool false)∧Below base w0 w'
 |some (gs',st')=>e= .returned (.bool true)∧(∃v' p',FS base F w' v' p' gs' st')∧Below base w0 w'
theorem jQ {base:Nat}{w0 w w1:World}(h:Below base w0 w)(hb:base≤w.heap.size)(k:Below w.heap.size w w1):Below base w0 w1:=
 h.trans ⟨k.os,k.tape,k.output,k.size,fun i hi=>k.block i (by omega)⟩
theorem FS.drawn {base F:Nat}{w w1:World}{v p:Value}{gs:List Gr}{st:List Ope}(h:FS base F w v p gs st)(hb:Below w.heap.size w w1):FS base F w1 v p gs st:=
 ⟨h.hF,(hb.block _ (aT h.hc)).trans h.hc,Kd.qj h.hgs hb,h.hst.step hb.size (fun k _ h2 _=>hb.block k h2),h.wf⟩
theorem yF (kind:ByteArray)(at_:Int)(base F:Nat)(w0 w:World)(v p:Value)(gs:List Gr)(st:List Ope)(HF:FS base F w v p gs st)(HB:Below base w0 w)(hl:gs.length≤1000000)
 (hk:je kind=true∨(je kind=false∧kind.toList≠jI∧kind.toList≠jl∧kind.toList≠gU)):
 Calls Tryz.prog 69 #[.pointer (some ⟨F,0,none⟩),.string kind,.int .i64 at_] w (EY base F w0 (ji kind at_ gs st)):=by
 have H68:=fun W=>OCond.jA.calls kind _ W (rQ kind)
 rcases hk with hk|⟨hk,h1,h2,h3⟩
 · have hr:ji kind at_ gs st=some (oK at_ gs st):=by unfold ji;rw [if_pos hk]
   rw [hr]
   rw [hk] at H68
   have HLE:ah (base≤w.heap.size):=⟨by have:=HF.hF;have:=aT HF.hc;omega⟩
   have HFA:=z0 HF
   have HBA:=z0 HB
   clear HF HB hr
   go_enter Tryz.func69,Tryz.ntmps69
   go_wp2_with (first|(go_at_call 68;go_loud (refine (H68 _).mono ?_;rintro e w8 ⟨rfl,hd⟩;have HF8:=z0 (HFA.out.drawn hd.below);have HB8:=z0 (jQ HBA.out HLE.out hd.below);clear hd))|(go_at_call 125;go_loud (refine (Gn at_ base F w0 _ _ _ gs st HF8.out HB8.out hl).mono ?_;rintro e w9 ⟨rfl,v9,p9,hf9,hb9⟩;have HF9:=z0 hf9;have HB9:=z0 hb9;clear hf9 hb9)))
   go_ret
   exact ⟨rfl,⟨_,_,HF9.out⟩,HB9.out⟩
 · have hr:ji kind at_ gs st=some (gs,st):=by unfold ji;rw [if_neg (by simp [hk]),if_pos ⟨h1,h2,h3⟩]
   rw [hr]
   rw [hk] at H68
   have HLE:ah (base≤w.heap.size):=⟨by have:=HF.hF;have:=aT HF.hc;omega⟩
   have HFA:=z0 HF
   have HBA:=z0 HB
   have c1:(kind.toList==jI)=false:=beq_eq_false_iff_ne.mpr h1
   have c1':(kind.toList !=jI)=true:=bne_iff_ne.mpr h1
   have c2:(kind.toList==jl)=false:=beq_eq_false_iff_ne.mpr h2
   have c2':(kind.toList !=jl)=true:=bne_iff_ne.mpr h2
   have c3:(kind.toList==gU)=false:=beq_eq_false_iff_ne.mpr h3
   have c3':(kind.toList !=gU)=true:=bne_iff_ne.mpr h3
   clear HF HB hr
   go_enter Tryz.func69,Tryz.ntmps69
   go_wp2_with (first|(go_at_call 68;go_loud (refine (H68 _).mono ?_;rintro e w8 ⟨rfl,hd⟩;have HF8:=z0 (HFA.out.drawn hd.below);have HB8:=z0 (jQ HBA.out HLE.out hd.below);clear hd)))
   go_ret
   exact ⟨rfl,⟨_,_,HF8.out⟩,HB8.out⟩
structure um (kind:ByteArray)(bi bs be:Bool):Prop where
 c1:(kind.toList==jI)=bi
 c1':(kind.toList !=jI)= !bi
 c2:(kind.toList==jl)=bs
 c2':(kind.toList !=jl)= !bs
 c3:(kind.toList==gU)=be
 c3':(kind.toList !=gU)= !be
theorem wW (kind:ByteArray)(h:kind.toList=jI∨kind.toList=jl∨kind.toList=gU):um kind true false false∨um kind false true false∨um kind false false true:=by
 rcases h with h|h|h
 · exact .inl ⟨by rw [h];decide,by rw [h];decide,by rw [h];decide,by rw [h];decide,by rw [h];decide,by rw [h];decide⟩
 · exact .inr (.inl ⟨by rw [h];decide,by rw [h];decide,by rw [h];decide,by rw [h];decide,by rw [h];decide,by rw [h];decide⟩)
 · exact .inr (.inr ⟨by rw [h];decide,by rw [h];decide,by rw [h];decide,by rw [h];decide,by rw [h];decide,by rw [h];decide⟩)
theorem wK (kind:ByteArray)(h:kind.toList=jI∨kind.toList=jl∨kind.toList=gU):je kind=false:=by
 unfold je
 rcases h with h|h|h<;>rw [h]<;>decide
theorem vV (kind:ByteArray)(at_:Int)(base F:Nat)(w0 w:World)(v p:Value)(gs:List Gr)(st:List Ope)(HF:FS base F w v p gs st)(HB:Below base w0 w)
 (hk:kind.toList=jI∨kind.toList=jl∨kind.toList=gU) (hst:st=[]∨∃x st',st=x::st'∧x.2.2=true∧kind.toList≠gU):
 Calls Tryz.prog 69 #[.pointer (some ⟨F,0,none⟩),.string kind,.int .i64 at_] w fun e w'=>e= .returned (.bool false)∧Below base w0 w':=by
 have H68:=fun W=>OCond.jA.calls kind _ W (rQ kind)
 rw [wK kind hk] at H68
 have HLE:ah (base≤w.heap.size):=⟨by have:=HF.hF;have:=aT HF.hc;omega⟩
 have HBA:=z0 HB
 have hFF:=HF.hc
 have hg1:w.cell? ⟨F,1,none⟩=some p:=by have:=cell_of_row w F 1 _ _ _ hFF;simpa using this
 have hst':=HF.hst
 clear HF HB hFF
 rcases hst with rfl|⟨⟨n,br,hs_⟩,st',rfl,rfl,hne⟩
 · obtain rfl:p= .pointer none:=hst'
   try clear hst'
   rcases wW kind hk with ⟨c1,c1',c2,c2',c3,c3'⟩|⟨c1,c1',c2,c2',c3,c3'⟩|⟨c1,c1',c2,c2',c3,c3'⟩
   all_goals
    clear hk
    go_enter Tryz.func69,Tryz.ntmps69
    go_wp2_with (first|(go_at_call 68;go_loud (refine (H68 _).mono ?_;rintro e w8 ⟨rfl,hd⟩;have HB8:=z0 (jQ HBA.out HLE.out hd.below);replace hg1:=(hd.below.cell (World.block_lt_of_cell? w _ hg1)).trans hg1;clear hd)))
    go_ret
    exact ⟨rfl,HB8.out⟩
 · obtain ⟨P,q0,rfl,hP0,hP1,hP2,hP3⟩:=hst'
   have z3:w.cell? ⟨P,2,none⟩=some (.bool true):=by have:=cell_of_row w P 2 _ _ _ hP2;simpa using this
   clear hP2 hP3
   rcases wW kind hk with ⟨c1,c1',c2,c2',c3,c3'⟩|⟨c1,c1',c2,c2',c3,c3'⟩|⟨c1,c1',c2,c2',c3,c3'⟩
   · clear hk hne
     go_enter Tryz.func69,Tryz.ntmps69
     go_wp2_with (first|(go_at_call 68;go_loud (refine (H68 _).mono ?_;rintro e w8 ⟨rfl,hd⟩;have HB8:=z0 (jQ HBA.out HLE.out hd.below);replace hg1:=(hd.below.cell (World.block_lt_of_cell? w _ hg1)).trans hg1;replace z3:=(hd.below.cell (World.block_lt_of_cell? w _ z3)).trans z3;clear hd)))
     go_ret
     exact ⟨rfl,HB8.out⟩
   · clear hk hne
     go_enter Tryz.func69,Tryz.ntmps69
     go_wp2_with (first|(go_at_call 68;go_loud (refine (H68 _).mono ?_;rintro e w8 ⟨rfl,hd⟩;have HB8:=z0 (jQ HBA.out HLE.out hd.below);replace hg1:=(hd.below.cell (World.block_lt_of_cell? w _ hg1)).trans hg1;replace z3:=(hd.below.cell (World.block_lt_of_cell? w _ z3)).trans z3;clear hd)))
     go_ret
     exact ⟨rfl,HB8.out⟩
   · exact absurd (beq_iff_eq.1 c3) hne
theorem IW {base F P n:Nat}{w9 w11:World}{v q:Value}{gs gs':List Gr}{br br':Int}{hs hs':Bool}{st:List Ope}(HF:FS base F w9 v (.pointer (some ⟨P,0,none⟩)) gs ((n,br,hs)::st))
 (hF11:w11.heap[F]? =some (.cells #[v,.pointer (some ⟨P,0,none⟩)] 131 (0,0))) (hP11:w11.heap[P]? =some (.cells #[.int .i64 n,.int .i64 br,.bool hs,q] 136 (0,0))) (hP0:base≤P) (HC:Chain w9 base P q st)
 (HS:Kd.S kGr 134 w11 base (fun _=>True) v gs') (hl:gs'.length=gs.length) (hFP:¬P=F)
 (keep:∀(k:Nat) (c:Array Value) (t:TypeId),w9.heap[k]? =some (Obj.cells c t (0,0))→t≠3→t≠134→w11.heap[k]? =some (Obj.cells c t (0,0))):
 FS base F ((w11.setCell ⟨P,1,none⟩ (.int .i64 br')).setCell ⟨P,2,none⟩ (.bool hs')) v (.pointer (some ⟨P,0,none⟩)) gs' ((n,br',hs')::st):=by
 have hP12:=dR hP11 1 (.int .i64 br') rfl
 have hP13:=dR hP12 2 (.bool hs') rfl
 refine ⟨HF.hF,dX (dX hF11 (fun h=>hFP h.symm) _) (fun h=>hFP h.symm) _,Kd.xG (Kd.xG HS hP11 (by decide) 1 _) hP12 (by decide) 2 _,⟨P,q,rfl,hP0,by have:=aT hP13;simpa using this,hP13,?_⟩,?_⟩
 · refine HC.step (Nat.le_refl _) (fun k h1 h2 h3=> ?_)
   obtain ⟨c,h3⟩:=h3
   have hkP:k≠P:=by omega
   exact (Below.heap_setCell _ ⟨P,2,none⟩ _ k hkP).trans ((Below.heap_setCell _ ⟨P,1,none⟩ _ k hkP).trans ((keep k c 136 h3 (by decide) (by decide)).trans h3.symm))
 · intro y hy
   rw [hl]
   rcases List.mem_cons.1 hy with rfl|hy
   · exact HF.wf (n,br,hs) List.mem_cons_self
   · exact HF.wf _ (List.mem_cons_of_mem _ hy)
theorem yE (kind:ByteArray)(at_:Int)(base F:Nat)(w0 w:World)(v p:Value)(gs:List Gr)(n:Nat)(br:Int)(hs_:Bool)(st:List Ope)(HF:FS base F w v p gs ((n,br,hs_)::st))(HB:Below base w0 w)(hl:gs.length≤1000000)(hll:(fV gs n).1.length≤1000000)
 (bi bs:Bool) (hk:kind.toList=jI∨kind.toList=jl) (hK:um kind bi bs false) (hbb:(bi=true∧bs=false)∨(bi=false∧bs=true)) (hne:hs_=false):
 Calls Tryz.prog 69 #[.pointer (some ⟨F,0,none⟩),.string kind,.int .i64 at_] w (EY base F w0 (some (EH at_ gs n,(n,wrap64 (br+1),kind.toList==jl)::st))):=by
 have H68:=fun W=>OCond.jA.calls kind _ W (rQ kind)
 rw [wK kind (hk.elim .inl (fun h=> .inr (.inl h)))] at H68
 have hnl:n<gs.length:=HF.wf _ (List.mem_cons_self)
 obtain ⟨B,cap,rfl,hB0,hB1,hBc⟩:=Kd.uh HF.hgs (by omega)
 obtain ⟨P,q0,rfl,hP0,hP1,hP2,hP3⟩:=HF.hst
 simp only at hP2
 have hFF:=HF.hc
 obtain ⟨c1,c1',c2,c2',c3,c3'⟩:=hK
 have hFl:=aT hFF
 have hg0:w.cell? ⟨F,0,none⟩=some (.slice (some ⟨B,0,none⟩) gs.length cap):=by have:=cell_of_row w F 0 _ _ _ hFF;simpa using this
 have hg1:w.cell? ⟨F,1,none⟩=some (.pointer (some ⟨P,0,none⟩)):=by have:=cell_of_row w F 1 _ _ _ hFF;simpa using this
 have z1:w.cell? ⟨P,0,none⟩=some (.int .i64 n):=by have:=cell_of_row w P 0 _ _ _ hP2;simpa using this
 have z2:w.cell? ⟨P,1,none⟩=some (.int .i64 br):=by have:=cell_of_row w P 1 _ _ _ hP2;simpa using this
 have z3:w.cell? ⟨P,2,none⟩=some (.bool false):=by have:=cell_of_row w P 2 _ _ _ hP2;rw [←hne];simpa using this
 subst hne
 have hi1:(0:Int)≤(n:Int):=by omega
 have hi2:(n:Int)<(gs.length:Int):=by omega
 have HLE:ah (base≤w.heap.size):=⟨by have:=HF.hF;omega⟩
 have HBA:=z0 HB
 have HFA:=z0 HF
 clear HB HF hFF hP2 hP3 hk
 rcases hbb with ⟨rfl,rfl⟩|⟨rfl,rfl⟩
 all_goals
  go_enter Tryz.func69,Tryz.ntmps69
  go_wp2_with (first|(go_at_call 68;go_loud (refine (H68 _).mono ?_;rintro e w8 ⟨rfl,hd⟩;have HF8:=z0 (HFA.out.drawn hd.below);have HB8:=z0 (jQ HBA.out HLE.out hd.below);replace hg0:=(hd.below.cell (World.block_lt_of_cell? w _ hg0)).trans hg0;replace hg1:=(hd.below.cell (World.block_lt_of_cell? w _ hg1)).trans hg1;replace z3:=(hd.below.cell (World.block_lt_of_cell? w _ z3)).trans z3;replace z1:=(hd.below.cell (World.block_lt_of_cell? w _ z1)).trans z1;replace z2:=(hd.below.cell (World.block_lt_of_cell? w _ z2)).trans z2;clear hd)))
  go_quiet (fail)
  obtain ⟨w9,hw9⟩:∃w9,w9=w8.drewN nq:=⟨_,rfl⟩
  rw [←hw9]
  have HF9:ah (FS base F w9 (.slice (some ⟨B,0,none⟩) gs.length cap) (.pointer (some ⟨P,0,none⟩)) gs ((n,br,false)::st)):=⟨by rw [hw9];exact HF8.out.drawn (aY (Below.refl _ _) nq)⟩
  have HB9:ah (Below base w0 w9):=⟨by rw [hw9];exact aY HB8.out nq⟩
  have HSZ9:ah (base≤w9.heap.size):=⟨by have:=HF9.out.hF;have:=aT HF9.out.hc;omega⟩
  clear hw9 HF8 HB8 hg0 hg1 z1 z2 z3 w8
  obtain ⟨oki,c,hcl,hM,hcc,hfr,hoki,hH⟩:=Kd.lX HF9.out.hgs ([],0,0,0) n hi1 hi2
  rw [Int.toNat_natCast] at hM hcc hfr
  change kGr.M w9 base oki (fV gs n) c at hM
  generalize hg:fV gs n=g0 at *
  obtain ⟨ls,b2,b3,b4⟩:=g0
  obtain ⟨_,_,rfl,⟨vl,rfl,hR⟩,⟨_,_,rfl,rfl,⟨_,_,rfl,rfl,rfl⟩⟩⟩:=hM
  simp only at hR hll
  obtain ⟨Al,cl,rfl⟩:=Kd.bF hR
  have hv0:w9.cell? ⟨B,n*4,none⟩=some (.slice Al ls.length cl):=hcc 0 _ rfl
  have HR:=z0 (Kd.fM (ok':=fun k=>oki k∨True∧w9.heap.size≤k) hR (fun k hk=> .inl hk))
  have HH:=z0 (Kd.Bd hH)
  have HOW:ah (∀k,(Value.slice Al ls.length cl).ownBlock=some k→oki k):=⟨hR.1⟩
  have HOK:=z0 hoki
  obtain ⟨P',q1,eP,_,hP1',hP2',hP3'⟩:=HF9.out.hst
  obtain rfl:P=P':=by injection eP with eP;injection eP with eP;injection eP
  simp only at hP2'
  have HP9:=z0 hP2'
  have HC9:=z0 hP3'
  have hFP:¬F=P:=by
   rintro rfl
   have:=HF9.out.hc
   rw [hP2'] at this
   injection this with this
   injection this with _ this
   exact absurd this (by decide)
  have hPF:¬P=F:=fun h=>hFP h.symm
  have KEEP:ah (∀w10 w11:World,World.grownBy w9 w10 (Value.slice Al ls.length cl).ownBlock→World.grownBy w10 w11 (some B)→∀(k:Nat) (c:Array Value) (t:TypeId),w9.heap[k]? =some (Obj.cells c t (0,0))→t≠3→t≠134→w11.heap[k]? =some (Obj.cells c t (0,0))):=⟨fun w10 w11 h1 h2 k c t hc ht1 ht2=>by
   have a1:some k≠(Value.slice Al ls.length cl).ownBlock:=fun e=>by
    obtain ⟨c',h⟩:=Kd.fQ HR.out k e.symm
    rw [h] at hc;injection hc with hc;injection hc with _ hc;exact ht1 hc.symm
   have a2:some k≠some B:=fun e=>by
    injection e with e;subst e
    obtain ⟨c',h⟩:=Kd.kE HF9.out.hgs k rfl
    rw [h] at hc;injection hc with hc;injection hc with _ hc;exact ht2 hc.symm
   have b1:=(h1.block k (aT hc) a1).trans hc
   exact (h2.block k (aT b1) a2).trans b1⟩
  clear hcc hfr hoki hH hR hcl hP2' hP3' eP
  go_wp2_with (first|(at_builtin;go_loud (refine Kd.fH (Kd.int .i64) (w0:=w0) base rfl (.tmp 60) (.tmp 62) 120 3 (.int .i64 0) 8 rfl Tryz.underlying120 (by kernel_rfl) rfl (by decide) (by omega) (.slice Al ls.length cl) ls at_ [.int .i64 at_] (fun k=>oki k∨True∧w9.heap.size≤k) (fun _=>False) rfl rfl rfl (fun _ hk=>hk.elim) (fun k hk=> .inr ⟨trivial,hk⟩) HR.out HB9.out HSZ9.out (by omega) ?_;intro v1 w10 ho hb hg1 hat;obtain ⟨A1,k1,rfl⟩:=Kd.bF ho;rw [List.length_append,List.length_singleton] at ho;have HR1:=z0 ho;have HB10:=z0 hb;have HG10:=z0 hg1;clear ho hb hg1 hat))|(refine lC (.store 120 (.tmp 65) (.tmp 63)) rfl ?_;go_loud (refine Kd.lg kGr (w0:=w0) base rfl rfl 120 (.tmp 65) (.tmp 63) rfl 134 (n:Int) 0 gs (ls++[at_],b2,b3,b4) (.slice A1 (ls.length+1) k1) [.slice A1 (ls.length+1) k1] [.slice Al ls.length cl,.int .i64 b2,.int .i64 b3,.int .i64 b4] (fun _=>True) (fun k=>oki k∨True∧w9.heap.size≤k) (fun k=>oki k∨True∧w9.heap.size≤k) rfl (by rw [Int.toNat_natCast];rfl) rfl rfl (by kernel_rfl) (fun q hq=>by rw [List.mem_singleton.1 hq];rfl) (Kd.oN HH.out HG10.out (fun k hk=> .inl (HOW.out k hk))) hi1 hi2 (show 0+1≤4 by omega) ?aM (fun _ h=>h) HB10.out ?_;(case aM=>exact ⟨_,_,rfl,⟨_,rfl,HR1.out⟩,⟨_,_,rfl,rfl,⟨_,_,rfl,rfl,rfl⟩⟩⟩);intro w11 ho hb hg2;have HS11:=z0 ho;have HB11:=z0 hb;have HG11:=z0 hg2;have hF11:=KEEP.out _ _ HG10.out hg2 F _ 131 HF9.out.hc (by decide) (by decide);have hP11:=KEEP.out _ _ HG10.out hg2 P _ 136 HP9.out (by decide) (by decide);have y1:w11.cell? ⟨F,1,none⟩=some (.pointer (some ⟨P,0,none⟩)):=(by have:=cell_of_row _ F 1 _ _ _ hF11;simpa using this);have y2:w11.cell? ⟨P,1,none⟩=some (.int .i64 br):=(by have:=cell_of_row _ P 1 _ _ _ hP11;simpa using this);have y3:w11.cell? ⟨P,2,none⟩=some (.bool false):=(by have:=cell_of_row _ P 2 _ _ _ hP11;simpa using this);have y4:=aj hP11 1;have y5:=aj hP11 2;have HP11:=z0 hP11;have HF11:=z0 hF11;clear ho hb hg2 hP11 hF11)))
  go_ret
  rw [EH,hg]
  refine ⟨rfl,⟨_,_,IW HF9.out HF11.out HP11.out hP0 HC9.out HS11.out (by rw [List.length_set]) hPF (KEEP.out _ _ HG10.out HG11.out)⟩,(HB11.out.setCell hP0 _).setCell hP0 _⟩
theorem Chain.ptr {w:World}{base:Nat}:∀{st:List Ope} {N:Nat} {p:Value},Chain w base N p st→∃q,p= .pointer q
 |[],_,_,h=>⟨_,h⟩
 |_::_,_,_,⟨_,_,h,_⟩=>⟨_,h⟩
theorem zM {base F P n:Nat}{w9 w13:World}{v p q:Value}{gs gs':List Gr}{br:Int}{hs:Bool}{st:List Ope}(HF:FS base F w9 v p gs ((n,br,hs)::st))
 (hF13:w13.heap[F]? =some (.cells #[v,p] 131 (0,0))) (hP:P≤w13.heap.size) (HC:Chain w9 base P q st)
 (HS:Kd.S kGr 134 w13 base (fun _=>True) v gs') (hl:gs'.length=gs.length)
 (keep:∀(k:Nat) (c:Array Value),w9.heap[k]? =some (Obj.cells c 136 (0,0))→w13.heap[k]? =some (Obj.cells c 136 (0,0))):
 FS base F (w13.setCell ⟨F,1,none⟩ q) v q gs' st:=by
 refine ⟨HF.hF,dR hF13 1 _ rfl,Kd.xG HS hF13 (by decide) 1 _,HC.step (by simpa using hP) (fun k h1 h2 h3=> ?_),?_⟩
 · obtain ⟨c,h3⟩:=h3
   have h4:=keep k c h3
   have hkF:k≠F:=by
    rintro rfl
    rw [hF13] at h4
    injection h4 with h4
    injection h4 with _ h4
    exact absurd h4 (by decide)
   exact (Below.heap_setCell _ ⟨F,1,none⟩ _ k hkF).trans (h4.trans h3.symm)
 · intro y hy
   rw [hl]
   exact HF.wf _ (List.mem_cons_of_mem _ hy)
theorem DC (kind:ByteArray)(at_:Int)(base F:Nat)(w0 w:World)(v p:Value)(gs:List Gr)(n:Nat)(br:Int)(hs_:Bool)(st:List Ope)(HF:FS base F w v p gs ((n,br,hs_)::st))(HB:Below base w0 w)(hl:gs.length≤1000000)(hll:(fV gs n).1.length≤1000000)
 (hk:kind.toList=gU) (hK:um kind false false true):
 Calls Tryz.prog 69 #[.pointer (some ⟨F,0,none⟩),.string kind,.int .i64 at_] w (EY base F w0 (some (gs.set n ((fV gs n).1++[at_],((fV gs n).1.length:Int)+(if hs_=true then 0 else 1),(fV gs n).2.2),st))):=by
 have H68:=fun W=>OCond.jA.calls kind _ W (rQ kind)
 rw [wK kind (.inr (.inr hk))] at H68
 have hnl:n<gs.length:=HF.wf _ (List.mem_cons_self)
 obtain ⟨B,cap,rfl,hB0,hB1,hBc⟩:=Kd.uh HF.hgs (by omega)
 obtain ⟨P,q0,rfl,hP0,hP1,hP2,hP3⟩:=HF.hst
 simp only at hP2
 have hFF:=HF.hc
 obtain ⟨c1,c1',c2,c2',c3,c3'⟩:=hK
 have hFl:=aT hFF
 have hg0:w.cell? ⟨F,0,none⟩=some (.slice (some ⟨B,0,none⟩) gs.length cap):=by have:=cell_of_row w F 0 _ _ _ hFF;simpa using this
 have hg1:w.cell? ⟨F,1,none⟩=some (.pointer (some ⟨P,0,none⟩)):=by have:=cell_of_row w F 1 _ _ _ hFF;simpa using this
 have z1:w.cell? ⟨P,0,none⟩=some (.int .i64 n):=by have:=cell_of_row w P 0 _ _ _ hP2;simpa using this
 have z2:w.cell? ⟨P,1,none⟩=some (.int .i64 br):=by have:=cell_of_row w P 1 _ _ _ hP2;simpa using this
 have z3:w.cell? ⟨P,2,none⟩=some (.bool hs_):=by have:=cell_of_row w P 2 _ _ _ hP2;simpa using this
 have hi1:(0:Int)≤(n:Int):=by omega
 have hi2:(n:Int)<(gs.length:Int):=by omega
 have HLE:ah (base≤w.heap.size):=⟨by have:=HF.hF;omega⟩
 have HBA:=z0 HB
 have HFA:=z0 HF
 clear HB HF hFF hP2 hP3 hk
 cases hs_
 all_goals
  go_enter Tryz.func69,Tryz.ntmps69
  go_wp2_with (first|(go_at_call 68;go_loud (refine (H68 _).mono ?_;rintro e w8 ⟨rfl,hd⟩;have HF8:=z0 (HFA.out.drawn hd.below);have HB8:=z0 (jQ HBA.out HLE.out hd.below);replace hg0:=(hd.below.cell (World.block_lt_of_cell? w _ hg0)).trans hg0;replace hg1:=(hd.below.cell (World.block_lt_of_cell? w _ hg1)).trans hg1;replace z3:=(hd.below.cell (World.block_lt_of_cell? w _ z3)).trans z3;replace z1:=(hd.below.cell (World.block_lt_of_cell? w _ z1)).trans z1;replace z2:=(hd.below.cell (World.block_lt_of_cell? w _ z2)).trans z2;clear hd)))
  go_quiet (fail)
  obtain ⟨w9,hw9⟩:∃w9,w9=w8.drewN nq:=⟨_,rfl⟩
  rw [←hw9]
  first
   |have HF9:ah (FS base F w9 (.slice (some ⟨B,0,none⟩) gs.length cap) (.pointer (some ⟨P,0,none⟩)) gs ((n,br,false)::st)):=⟨by rw [hw9];exact HF8.out.drawn (aY (Below.refl _ _) nq)⟩
   |have HF9:ah (FS base F w9 (.slice (some ⟨B,0,none⟩) gs.length cap) (.pointer (some ⟨P,0,none⟩)) gs ((n,br,true)::st)):=⟨by rw [hw9];exact HF8.out.drawn (aY (Below.refl _ _) nq)⟩
  have HB9:ah (Below base w0 w9):=⟨by rw [hw9];exact aY HB8.out nq⟩
  have HSZ9:ah (base≤w9.heap.size):=⟨by have:=HF9.out.hF;have:=aT HF9.out.hc;omega⟩
  clear hw9 HF8 HB8 hg0 hg1 z1 z2 z3 w8
  obtain ⟨oki,c,hcl,hM,hcc,hfr,hoki,hH⟩:=Kd.lX HF9.out.hgs ([],0,0,0) n hi1 hi2
  rw [Int.toNat_natCast] at hM hcc hfr
  change kGr.M w9 base oki (fV gs n) c at hM
  generalize hg:fV gs n=g0 at *
  obtain ⟨ls,b2,b3,b4⟩:=g0
  obtain ⟨_,_,rfl,⟨vl,rfl,hR⟩,⟨_,_,rfl,rfl,⟨_,_,rfl,rfl,rfl⟩⟩⟩:=hM
  simp only at hR hll
  obtain ⟨Al,cl,rfl⟩:=Kd.bF hR
  have hv0:w9.cell? ⟨B,n*4,none⟩=some (.slice Al ls.length cl):=hcc 0 _ rfl
  have HR:=z0 (Kd.fM (ok':=fun k=>oki k∨True∧w9.heap.size≤k) hR (fun k hk=> .inl hk))
  have HH:=z0 (Kd.Bd hH)
  have HOW:ah (∀k,(Value.slice Al ls.length cl).ownBlock=some k→oki k):=⟨hR.1⟩
  have HOK:=z0 hoki
  obtain ⟨P',q1,eP,_,hP1',hP2',hP3'⟩:=HF9.out.hst
  obtain rfl:P=P':=by injection eP with eP;injection eP with eP;injection eP
  simp only at hP2'
  obtain ⟨q2,rfl⟩:=Chain.ptr hP3'
  have HP9:=z0 hP2'
  have HC9:=z0 hP3'
  have hFP:¬F=P:=by
   rintro rfl
   have:=HF9.out.hc
   rw [hP2'] at this
   injection this with this
   injection this with _ this
   exact absurd this (by decide)
  have hPF:¬P=F:=fun h=>hFP h.symm
  have hBt:∃cells,w9.heap[B]? =some (.cells cells 134 (0,0)):=Kd.kE HF9.out.hgs B rfl
  have hFB:¬F=B:=by
   rintro rfl
   obtain ⟨c',h'⟩:=hBt
   have:=HF9.out.hc
   rw [h'] at this
   injection this with this
   injection this with _ this
   exact absurd this (by decide)
  have hPB:¬P=B:=by
   rintro rfl
   obtain ⟨c',h'⟩:=hBt
   have:=HP9.out
   rw [h'] at this
   injection this with this
   injection this with _ this
   exact absurd this (by decide)
  have E3:ah (((gs.set (n:Int).toNat (ls++[at_],b2,b3,b4)).set (n:Int).toNat (ls++[at_],(ls.length:Int),b3,b4)).getD (n:Int).toNat ([],0,0,0)=(ls++[at_],(ls.length:Int),b3,b4)):=⟨by simp [hnl]⟩
  have KEEP:ah (∀w10 w11:World,World.grownBy w9 w10 (Value.slice Al ls.length cl).ownBlock→World.grownBy w10 w11 (some B)→∀(k:Nat) (c:Array Value) (t:TypeId),w9.heap[k]? =some (Obj.cells c t (0,0))→t≠3→t≠134→w11.heap[k]? =some (Obj.cells c t (0,0))):=⟨fun w10 w11 h1 h2 k c t hc ht1 ht2=>by
   have a1:some k≠(Value.slice Al ls.length cl).ownBlock:=fun e=>by
    obtain ⟨c',h⟩:=Kd.fQ HR.out k e.symm
    rw [h] at hc;injection hc with hc;injection hc with _ hc;exact ht1 hc.symm
   have a2:some k≠some B:=fun e=>by
    injection e with e;subst e
    obtain ⟨c',h⟩:=Kd.kE HF9.out.hgs k rfl
    rw [h] at hc;injection hc with hc;injection hc with _ hc;exact ht2 hc.symm
   have b1:=(h1.block k (aT hc) a1).trans hc
   exact (h2.block k (aT b1) a2).trans b1⟩
  clear hcc hfr hoki hH hR hcl hP2' hP3' eP
 · go_wp2_with (first|(at_builtin;go_loud (refine Kd.fH (Kd.int .i64) (w0:=w0) base rfl (.tmp 60) (.tmp 62) 120 3 (.int .i64 0) 8 rfl Tryz.underlying120 (by kernel_rfl) rfl (by decide) (by omega) (.slice Al ls.length cl) ls at_ [.int .i64 at_] (fun k=>oki k∨True∧w9.heap.size≤k) (fun _=>False) rfl rfl rfl (fun _ hk=>hk.elim) (fun k hk=> .inr ⟨trivial,hk⟩) HR.out HB9.out HSZ9.out (by omega) ?_;intro v1 w10 ho hb hg1 hat;obtain ⟨A1,k1,rfl⟩:=Kd.bF ho;rw [List.length_append,List.length_singleton] at ho;have HR1:=z0 ho;have HB10:=z0 hb;have HG10:=z0 hg1;clear ho hb hg1 hat))|(refine lC (.store 3 (.tmp 94) (.tmp 92)) rfl ?_;go_loud (refine Kd.lg kGr (w0:=w0) base rfl rfl 3 (.tmp 94) (.tmp 92) rfl 134 (n:Int) 1 (gs.set (n:Int).toNat (ls++[at_],b2,b3,b4)) (ls++[at_],(ls.length:Int),b3,b4) (.int .i64 (ls.length:Int)) [.int .i64 (ls.length:Int)] [.slice A2 (ls.length+1) k2,.int .i64 b2,.int .i64 b3,.int .i64 b4] (fun _=>True) oki2 oki2 rfl (by rw [Int.toNat_natCast];rfl) rfl rfl (by kernel_rfl) (fun q hq=>by rw [List.mem_singleton.1 hq];rfl) HH2.out hi1 hi2 (show 1+1≤4 by omega) ?aM (fun _ h=>h) HB11.out ?_;(case aM=>exact ⟨[.slice A2 (ls.length+1) k2],_,rfl,⟨_,rfl,HR2.out⟩,⟨_,_,rfl,rfl,⟨_,_,rfl,rfl,rfl⟩⟩⟩);intro w12 ho hb hg2;have HS12:=z0 ho;have HB12:=z0 hb;have HG12:=z0 hg2;have hF12:=(hg2.block F (aT HF11.out) (fun e=>hFB (by injection e))).trans HF11.out;have hP12:=(hg2.block P (aT HP11.out) (fun e=>hPB (by injection e))).trans HP11.out;have y112:w12.cell? ⟨F,1,none⟩=some (.pointer (some ⟨P,0,none⟩)):=(by have:=cell_of_row _ F 1 _ _ _ hF12;simpa using this);have y212:w12.cell? ⟨P,2,none⟩=some (.bool false):=(by have:=cell_of_row _ P 2 _ _ _ hP12;simpa using this);have y312:w12.cell? ⟨P,3,none⟩=some (.pointer q2):=(by have:=cell_of_row _ P 3 _ _ _ hP12;simpa using this);have y412:=aj hF12 1;have HF12:=z0 hF12;have HP12:=z0 hP12;obtain ⟨oki3,c3_,hcl3,hM3,hcc3,hfr3,hoki3,hH3⟩:=Kd.lX HS12.out ([],0,0,0) n hi1 hi2;rw [E3.out] at hM3;rw [Int.toNat_natCast] at hcc3 hfr3;obtain ⟨_,_,rfl,⟨vl3,rfl,hR3⟩,⟨_,_,rfl,rfl,⟨_,_,rfl,rfl,rfl⟩⟩⟩:=hM3;have x3:w12.cell? ⟨B,n*4+1,none⟩=some (.int .i64 (ls.length:Int)):=hcc3 1 _ rfl;have x4:=hfr3 1;have HH3:=z0 hH3;have HR3:=z0 hR3;have HK3:=z0 hoki3;clear hcl3 hcc3 hfr3 hoki3 hH3 hR3 x0 x1 x2 ho hb hg2 hF12 hP12))|(refine lC (.store 3 (.tmp 109) (.tmp 107)) rfl ?_;go_loud (refine Kd.lg kGr (w0:=w0) base rfl rfl 3 (.tmp 109) (.tmp 107) rfl 134 (n:Int) 1 ((gs.set (n:Int).toNat (ls++[at_],b2,b3,b4)).set (n:Int).toNat (ls++[at_],(ls.length:Int),b3,b4)) (ls++[at_],((ls.length:Int)+1),b3,b4) (.int .i64 ((ls.length:Int)+1)) [.int .i64 ((ls.length:Int)+1)] [vl3,.int .i64 (ls.length:Int),.int .i64 b3,.int .i64 b4] (fun _=>True) oki3 oki3 rfl (by rw [Int.toNat_natCast];rfl) rfl rfl (by kernel_rfl) (fun q hq=>by rw [List.mem_singleton.1 hq];rfl) HH3.out hi1 hi2 (show 1+1≤4 by omega) ?aM (fun _ h=>h) HB12.out ?_;(case aM=>exact ⟨[vl3],_,rfl,⟨_,rfl,HR3.out⟩,⟨_,_,rfl,rfl,⟨_,_,rfl,rfl,rfl⟩⟩⟩);intro w13 ho hb hg2;have HS13:=z0 ho;have HB13:=z0 hb;have HG13:=z0 hg2;have hF13:=(hg2.block F (aT HF12.out) (fun e=>hFB (by injection e))).trans HF12.out;have hP13:=(hg2.block P (aT HP12.out) (fun e=>hPB (by injection e))).trans HP12.out;have y113:w13.cell? ⟨F,1,none⟩=some (.pointer (some ⟨P,0,none⟩)):=(by have:=cell_of_row _ F 1 _ _ _ hF13;simpa using this);have y213:w13.cell? ⟨P,2,none⟩=some (.bool false):=(by have:=cell_of_row _ P 2 _ _ _ hP13;simpa using this);have y313:w13.cell? ⟨P,3,none⟩=some (.pointer q2):=(by have:=cell_of_row _ P 3 _ _ _ hP13;simpa using this);have y413:=aj hF13 1;have HF13:=z0 hF13;have HP13:=z0 hP13;clear ho hb hg2 hF13 hP13))|(refine lC (.store 120 (.tmp 65) (.tmp 63)) rfl ?_;go_loud (refine Kd.lg kGr (w0:=w0) base rfl rfl 120 (.tmp 65) (.tmp 63) rfl 134 (n:Int) 0 gs (ls++[at_],b2,b3,b4) (.slice A1 (ls.length+1) k1) [.slice A1 (ls.length+1) k1] [.slice Al ls.length cl,.int .i64 b2,.int .i64 b3,.int .i64 b4] (fun _=>True) (fun k=>oki k∨True∧w9.heap.size≤k) (fun k=>oki k∨True∧w9.heap.size≤k) rfl (by rw [Int.toNat_natCast];rfl) rfl rfl (by kernel_rfl) (fun q hq=>by rw [List.mem_singleton.1 hq];rfl) (Kd.oN HH.out HG10.out (fun k hk=> .inl (HOW.out k hk))) hi1 hi2 (show 0+1≤4 by omega) ?aM (fun _ h=>h) HB10.out ?_;(case aM=>exact ⟨_,_,rfl,⟨_,rfl,HR1.out⟩,⟨_,_,rfl,rfl,⟨_,_,rfl,rfl,rfl⟩⟩⟩);intro w11 ho hb hg2;have HS11:=z0 ho;have HB11:=z0 hb;have HG11:=z0 hg2;have hF11:=KEEP.out _ _ HG10.out hg2 F _ 131 HF9.out.hc (by decide) (by decide);have hP11:=KEEP.out _ _ HG10.out hg2 P _ 136 HP9.out (by decide) (by decide);have e2:(gs.set (n:Int).toNat (ls++[at_],b2,b3,b4)).getD (n:Int).toNat ([],0,0,0)=(ls++[at_],b2,b3,b4):=(by simp [hnl]);obtain ⟨oki2,c2,hcl2,hM2,hcc2,hfr2,hoki2,hH2⟩:=Kd.lX HS11.out ([],0,0,0) n hi1 hi2;rw [e2] at hM2;rw [Int.toNat_natCast] at hcc2 hfr2;obtain ⟨_,_,rfl,⟨vl2,rfl,hR2⟩,⟨_,_,rfl,rfl,⟨_,_,rfl,rfl,rfl⟩⟩⟩:=hM2;obtain ⟨A2,k2,rfl⟩:=Kd.bF hR2;simp only at hR2;rw [List.length_append,List.length_singleton] at hR2;have x0:w11.cell? ⟨B,n*4,none⟩=some (.slice A2 (ls.length+1) k2):=(by have:=hcc2 0 _ rfl;rw [List.length_append,List.length_singleton] at this;exact this);have x1:w11.cell? ⟨B,n*4+1,none⟩=some (.int .i64 b2):=hcc2 1 _ rfl;have x2:=hfr2 1;simp only [List.length_append,List.length_singleton] at hH2;have HH2:=z0 (show Kd.H kGr 134 w11 base (fun _=>True) (.slice (some ⟨B,0,none⟩) gs.length cap) (gs.set (n:Int).toNat (ls++[at_],b2,b3,b4)) (n:Int) oki2 [.slice A2 (ls.length+1) k2,.int .i64 b2,.int .i64 b3,.int .i64 b4] from hH2);have HR2:=z0 hR2;have HK2:=z0 hoki2;clear hcl2 hcc2 hfr2 hoki2 hH2 e2 hR2;have y1:w11.cell? ⟨F,1,none⟩=some (.pointer (some ⟨P,0,none⟩)):=(by have:=cell_of_row _ F 1 _ _ _ hF11;simpa using this);have y2:w11.cell? ⟨P,1,none⟩=some (.int .i64 br):=(by have:=cell_of_row _ P 1 _ _ _ hP11;simpa using this);have y3:w11.cell? ⟨P,2,none⟩=some (.bool false):=(by have:=cell_of_row _ P 2 _ _ _ hP11;simpa using this);have y4:=aj hP11 1;have y5:=aj hP11 2;have HP11:=z0 hP11;have HF11:=z0 hF11;clear ho hb hg2 hP11 hF11)))
   go_ret
   have hK:∀(k:Nat) (c:Array Value),w9.heap[k]? =some (Obj.cells c 136 (0,0))→w13.heap[k]? =some (Obj.cells c 136 (0,0)):=fun k c h=>by
    have hkB:k≠B:=by
     rintro rfl
     obtain ⟨c',h'⟩:=hBt
     rw [h'] at h
     injection h with h
     injection h with _ h
     exact absurd h (by decide)
    have h11:=KEEP.out _ _ HG10.out HG11.out k c 136 h (by decide) (by decide)
    have h12:=(HG12.out.block k (aT h11) (fun e=>hkB (by injection e))).trans h11
    exact (HG13.out.block k (aT h12) (fun e=>hkB (by injection e))).trans h12
   have hSS:=HS13.out
   rw [Int.toNat_natCast] at hSS
   simp only [List.set_set] at hSS
   exact ⟨rfl,⟨_,_,zM (P:=P) (n:=n) HF9.out HF13.out (by have:=aT HP13.out;omega) HC9.out hSS (by rw [List.length_set]) hK⟩,HB13.out.setCell HF9.out.hF _⟩
 · go_wp2_with (first|(at_builtin;go_loud (refine Kd.fH (Kd.int .i64) (w0:=w0) base rfl (.tmp 60) (.tmp 62) 120 3 (.int .i64 0) 8 rfl Tryz.underlying120 (by kernel_rfl) rfl (by decide) (by omega) (.slice Al ls.length cl) ls at_ [.int .i64 at_] (fun k=>oki k∨True∧w9.heap.size≤k) (fun _=>False) rfl rfl rfl (fun _ hk=>hk.elim) (fun k hk=> .inr ⟨trivial,hk⟩) HR.out HB9.out HSZ9.out (by omega) ?_;intro v1 w10 ho hb hg1 hat;obtain ⟨A1,k1,rfl⟩:=Kd.bF ho;rw [List.length_append,List.length_singleton] at ho;have HR1:=z0 ho;have HB10:=z0 hb;have HG10:=z0 hg1;clear ho hb hg1 hat))|(refine lC (.store 3 (.tmp 94) (.tmp 92)) rfl ?_;go_loud (refine Kd.lg kGr (w0:=w0) base rfl rfl 3 (.tmp 94) (.tmp 92) rfl 134 (n:Int) 1 (gs.set (n:Int).toNat (ls++[at_],b2,b3,b4)) (ls++[at_],(ls.length:Int),b3,b4) (.int .i64 (ls.length:Int)) [.int .i64 (ls.length:Int)] [.slice A2 (ls.length+1) k2,.int .i64 b2,.int .i64 b3,.int .i64 b4] (fun _=>True) oki2 oki2 rfl (by rw [Int.toNat_natCast];rfl) rfl rfl (by kernel_rfl) (fun q hq=>by rw [List.mem_singleton.1 hq];rfl) HH2.out hi1 hi2 (show 1+1≤4 by omega) ?aM (fun _ h=>h) HB11.out ?_;(case aM=>exact ⟨[.slice A2 (ls.length+1) k2],_,rfl,⟨_,rfl,HR2.out⟩,⟨_,_,rfl,rfl,⟨_,_,rfl,rfl,rfl⟩⟩⟩);intro w12 ho hb hg2;have HS12:=z0 ho;have HB12:=z0 hb;have HG12:=z0 hg2;have hF12:=(hg2.block F (aT HF11.out) (fun e=>hFB (by injection e))).trans HF11.out;have hP12:=(hg2.block P (aT HP11.out) (fun e=>hPB (by injection e))).trans HP11.out;have y112:w12.cell? ⟨F,1,none⟩=some (.pointer (some ⟨P,0,none⟩)):=(by have:=cell_of_row _ F 1 _ _ _ hF12;simpa using this);have y212:w12.cell? ⟨P,2,none⟩=some (.bool true):=(by have:=cell_of_row _ P 2 _ _ _ hP12;simpa using this);have y312:w12.cell? ⟨P,3,none⟩=some (.pointer q2):=(by have:=cell_of_row _ P 3 _ _ _ hP12;simpa using this);have y412:=aj hF12 1;have HF12:=z0 hF12;have HP12:=z0 hP12;obtain ⟨oki3,c3_,hcl3,hM3,hcc3,hfr3,hoki3,hH3⟩:=Kd.lX HS12.out ([],0,0,0) n hi1 hi2;rw [E3.out] at hM3;rw [Int.toNat_natCast] at hcc3 hfr3;obtain ⟨_,_,rfl,⟨vl3,rfl,hR3⟩,⟨_,_,rfl,rfl,⟨_,_,rfl,rfl,rfl⟩⟩⟩:=hM3;have x3:w12.cell? ⟨B,n*4+1,none⟩=some (.int .i64 (ls.length:Int)):=hcc3 1 _ rfl;have x4:=hfr3 1;have HH3:=z0 hH3;have HR3:=z0 hR3;have HK3:=z0 hoki3;clear hcl3 hcc3 hfr3 hoki3 hH3 hR3 x0 x1 x2 ho hb hg2 hF12 hP12))|(refine lC (.store 3 (.tmp 109) (.tmp 107)) rfl ?_;go_loud (refine Kd.lg kGr (w0:=w0) base rfl rfl 3 (.tmp 109) (.tmp 107) rfl 134 (n:Int) 1 ((gs.set (n:Int).toNat (ls++[at_],b2,b3,b4)).set (n:Int).toNat (ls++[at_],(ls.length:Int),b3,b4)) (ls++[at_],((ls.length:Int)+1),b3,b4) (.int .i64 ((ls.length:Int)+1)) [.int .i64 ((ls.length:Int)+1)] [vl3,.int .i64 (ls.length:Int),.int .i64 b3,.int .i64 b4] (fun _=>True) oki3 oki3 rfl (by rw [Int.toNat_natCast];rfl) rfl rfl (by kernel_rfl) (fun q hq=>by rw [List.mem_singleton.1 hq];rfl) HH3.out hi1 hi2 (show 1+1≤4 by omega) ?aM (fun _ h=>h) HB12.out ?_;(case aM=>exact ⟨[vl3],_,rfl,⟨_,rfl,HR3.out⟩,⟨_,_,rfl,rfl,⟨_,_,rfl,rfl,rfl⟩⟩⟩);intro w13 ho hb hg2;have HS13:=z0 ho;have HB13:=z0 hb;have HG13:=z0 hg2;have hF13:=(hg2.block F (aT HF12.out) (fun e=>hFB (by injection e))).trans HF12.out;have hP13:=(hg2.block P (aT HP12.out) (fun e=>hPB (by injection e))).trans HP12.out;have y113:w13.cell? ⟨F,1,none⟩=some (.pointer (some ⟨P,0,none⟩)):=(by have:=cell_of_row _ F 1 _ _ _ hF13;simpa using this);have y213:w13.cell? ⟨P,2,none⟩=some (.bool true):=(by have:=cell_of_row _ P 2 _ _ _ hP13;simpa using this);have y313:w13.cell? ⟨P,3,none⟩=some (.pointer q2):=(by have:=cell_of_row _ P 3 _ _ _ hP13;simpa using this);have y413:=aj hF13 1;have HF13:=z0 hF13;have HP13:=z0 hP13;clear ho hb hg2 hF13 hP13))|(refine lC (.store 120 (.tmp 65) (.tmp 63)) rfl ?_;go_loud (refine Kd.lg kGr (w0:=w0) base rfl rfl 120 (.tmp 65) (.tmp 63) rfl 134 (n:Int) 0 gs (ls++[at_],b2,b3,b4) (.slice A1 (ls.length+1) k1) [.slice A1 (ls.length+1) k1] [.slice Al ls.length cl,.int .i64 b2,.int .i64 b3,.int .i64 b4] (fun _=>True) (fun k=>oki k∨True∧w9.heap.size≤k) (fun k=>oki k∨True∧w9.heap.size≤k) rfl (by rw [Int.toNat_natCast];rfl) rfl rfl (by kernel_rfl) (fun q hq=>by rw [List.mem_singleton.1 hq];rfl) (Kd.oN HH.out HG10.out (fun k hk=> .inl (HOW.out k hk))) hi1 hi2 (show 0+1≤4 by omega) ?aM (fun _ h=>h) HB10.out ?_;(case aM=>exact ⟨_,_,rfl,⟨_,rfl,HR1.out⟩,⟨_,_,rfl,rfl,⟨_,_,rfl,rfl,rfl⟩⟩⟩);intro w11 ho hb hg2;have HS11:=z0 ho;have HB11:=z0 hb;have HG11:=z0 hg2;have hF11:=KEEP.out _ _ HG10.out hg2 F _ 131 HF9.out.hc (by decide) (by decide);have hP11:=KEEP.out _ _ HG10.out hg2 P _ 136 HP9.out (by decide) (by decide);have e2:(gs.set (n:Int).toNat (ls++[at_],b2,b3,b4)).getD (n:Int).toNat ([],0,0,0)=(ls++[at_],b2,b3,b4):=(by simp [hnl]);obtain ⟨oki2,c2,hcl2,hM2,hcc2,hfr2,hoki2,hH2⟩:=Kd.lX HS11.out ([],0,0,0) n hi1 hi2;rw [e2] at hM2;rw [Int.toNat_natCast] at hcc2 hfr2;obtain ⟨_,_,rfl,⟨vl2,rfl,hR2⟩,⟨_,_,rfl,rfl,⟨_,_,rfl,rfl,rfl⟩⟩⟩:=hM2;obtain ⟨A2,k2,rfl⟩:=Kd.bF hR2;simp only at hR2;rw [List.length_append,List.length_singleton] at hR2;have x0:w11.cell? ⟨B,n*4,none⟩=some (.slice A2 (ls.length+1) k2):=(by have:=hcc2 0 _ rfl;rw [List.length_append,List.length_singleton] at this;exact this);have x1:w11.cell? ⟨B,n*4+1,none⟩=some (.int .i64 b2):=hcc2 1 _ rfl;have x2:=hfr2 1;simp only [List.length_append,List.length_singleton] at hH2;have HH2:=z0 (show Kd.H kGr 134 w11 base (fun _=>True) (.slice (some ⟨B,0,none⟩) gs.length cap) (gs.set (n:Int).toNat (ls++[at_],b2,b3,b4)) (n:Int) oki2 [.slice A2 (ls.length+1) k2,.int .i64 b2,.int .i64 b3,.int .i64 b4] from hH2);have HR2:=z0 hR2;have HK2:=z0 hoki2;clear hcl2 hcc2 hfr2 hoki2 hH2 e2 hR2;have y1:w11.cell? ⟨F,1,none⟩=some (.pointer (some ⟨P,0,none⟩)):=(by have:=cell_of_row _ F 1 _ _ _ hF11;simpa using this);have y2:w11.cell? ⟨P,1,none⟩=some (.int .i64 br):=(by have:=cell_of_row _ P 1 _ _ _ hP11;simpa using this);have y3:w11.cell? ⟨P,2,none⟩=some (.bool true):=(by have:=cell_of_row _ P 2 _ _ _ hP11;simpa using this);have y4:=aj hP11 1;have y5:=aj hP11 2;have HP11:=z0 hP11;have HF11:=z0 hF11;clear ho hb hg2 hP11 hF11)))
   go_ret
   have hK:∀(k:Nat) (c:Array Value),w9.heap[k]? =some (Obj.cells c 136 (0,0))→w12.heap[k]? =some (Obj.cells c 136 (0,0)):=fun k c h=>by
    have hkB:k≠B:=by
     rintro rfl
     obtain ⟨c',h'⟩:=hBt
     rw [h'] at h
     injection h with h
     injection h with _ h
     exact absurd h (by decide)
    have h11:=KEEP.out _ _ HG10.out HG11.out k c 136 h (by decide) (by decide)
    exact (HG12.out.block k (aT h11) (fun e=>hkB (by injection e))).trans h11
   have hSS:=HS12.out
   rw [Int.toNat_natCast] at hSS
   simp only [List.set_set] at hSS
   exact ⟨rfl,⟨_,_,zM (P:=P) (n:=n) HF9.out HF12.out (by have:=aT HP12.out;omega) HC9.out hSS (by rw [List.length_set]) hK⟩,HB12.out.setCell HF9.out.hF _⟩
theorem GY (kind:ByteArray)(at_:Int)(base F:Nat)(w0 w:World)(v p:Value)(gs:List Gr)(st:List Ope)(HF:FS base F w v p gs st)(HB:Below base w0 w)(hl:gs.length≤1000000)(hll:∀g∈gs,g.1.length≤1000000):
 Calls Tryz.prog 69 #[.pointer (some ⟨F,0,none⟩),.string kind,.int .i64 at_] w (EY base F w0 (ji kind at_ gs st)):=by
 by_cases ho:je kind=true
 · exact yF kind at_ base F w0 w v p gs st HF HB hl (.inl ho)
 · by_cases hk:kind.toList≠jI∧kind.toList≠jl∧kind.toList≠gU
   · exact yF kind at_ base F w0 w v p gs st HF HB hl (.inr ⟨by simpa using ho,hk⟩)
   · have hk':kind.toList=jI∨kind.toList=jl∨kind.toList=gU:=by
      by_cases h1:kind.toList=jI
      · exact .inl h1
      · by_cases h2:kind.toList=jl
        · exact .inr (.inl h2)
        · by_cases h3:kind.toList=gU
          · exact .inr (.inr h3)
          · exact absurd ⟨h1,h2,h3⟩ hk
     unfold ji
     rw [if_neg ho,if_neg hk]
     cases st with
     |nil=>exact vV kind at_ base F w0 w v p gs [] HF HB hk' (.inl rfl)
     |cons x st'=>
      obtain ⟨n,br,hs⟩:=x
      have hg:(fV gs n).1.length≤1000000:=by
       have hn:n<gs.length:=HF.wf _ List.mem_cons_self
       have:fV gs n=gs[n]:=by simp [fV,hn]
       rw [this]
       exact hll _ (List.getElem_mem hn)
      dsimp only
      by_cases hc:hs=true∧kind.toList≠gU
      · rw [if_pos hc]
        exact vV kind at_ base F w0 w v p gs _ HF HB hk' (.inr ⟨_,_,rfl,hc⟩)
      · rw [if_neg hc]
        by_cases he:kind.toList≠gU
        · rw [if_pos he]
          have h1:kind.toList=jI∨kind.toList=jl:=by
           rcases hk' with h|h|h
           · exact .inl h
           · exact .inr h
           · exact absurd h he
          have h2:hs=false:=by cases hs with|false=>rfl|true=>exact absurd ⟨rfl,he⟩ hc
          rcases wW kind hk' with h|h|h
          · exact yE kind at_ base F w0 w v p gs n br hs st' HF HB hl hg _ _ h1 h (.inl ⟨rfl,rfl⟩) h2
          · exact yE kind at_ base F w0 w v p gs n br hs st' HF HB hl hg _ _ h1 h (.inr ⟨rfl,rfl⟩) h2
          · exact absurd (beq_iff_eq.1 h.c3) he
        · rw [if_neg he]
          have he':kind.toList=gU:=Classical.not_not.1 he
          rcases wW kind hk' with h|h|h
          · exact absurd he' (beq_eq_false_iff_ne.1 h.c3)
          · exact absurd he' (beq_eq_false_iff_ne.1 h.c3)
          · exact DC kind at_ base F w0 w v p gs n br hs st' HF HB hl hg he' h
def lu:List ByteArray→Nat→List Gr→List Ope→(List Gr × List Ope) ⊕ Nat
 |[],_,gs,st=> .inl (gs,st)
 |k::ks,i,gs,st=>match ji k i gs st with
  |none=> .inr i
  |some r=>lu ks (i+1) r.1 r.2
def jL:List ByteArray→Nat
 |[]=>0
 |k::ks=>(if je k=true then 1 else 0)+jL ks
theorem tC:∀ks:List ByteArray,jL ks≤ks.length
 |[]=>Nat.le_refl _
 |k::ks=>by have:=tC ks;unfold jL;rw [List.length_cons];split<;>omega
theorem lT:∀(ks:List ByteArray) (k:ByteArray),jL (ks++[k])=jL ks+(if je k=true then 1 else 0)
 |[],k=>by simp [jL]
 |x::ks,k=>by rw [List.cons_append,jL,jL,lT ks k];omega
def bZ (ks:List ByteArray):List Gr × Int × Int:=
 if 200<jL ks then ([],2,0) else
 match lu ks 0 [] [] with
 | .inr i=>([],30,i)
 | .inl (gs,[])=>(gs,0,0)
 | .inl (gs,x::_)=>([],30,(fV gs x.1).1.headD 0)
def rD (t:Tk)(r:ByteArray):Prop:=∃k,OCond.jd.f k t.1 t.2.1 t.2.2.1 t.2.2.2=some r
theorem take_snoc {α:Type}(l:List α)(i:Nat)(r:α)(h:l[i]? =some r):l.take (i+1)=l.take i++[r]:=by
 obtain ⟨hi,he⟩:=List.getElem?_eq_some_iff.1 h
 rw [List.take_succ_eq_append_getElem hi,he]
theorem Dh {α:Type}(l:List α)(z r:α)(i n:Nat)(hi:i<n)(h:l[i]? =some r):(l.take i++List.replicate (n-i) z).set (i:Int).toNat r=l.take (i+1)++List.replicate (n-(i+1)) z:=by
 obtain ⟨hil,he⟩:=List.getElem?_eq_some_iff.1 h
 have hl:(l.take i).length=i:=by rw [List.length_take];omega
 rw [Int.toNat_natCast,take_snoc l i r h,List.set_append_right _ _ (by omega),hl,Nat.sub_self,show n-i=(n-(i+1))+1 by omega,List.replicate_succ,List.set_cons_zero]
 simp
theorem Di {α:Type}(l:List α)(z r:α)(i n:Nat)(h:l[i]? =some r):(l.take (i+1)++List.replicate (n-(i+1)) z).getD (i:Int).toNat z=r:=by
 obtain ⟨hil,he⟩:=List.getElem?_eq_some_iff.1 h
 rw [Int.toNat_natCast,List.getD_eq_getElem?_getD,List.getElem?_append_left (by rw [List.length_take];omega),List.getElem?_take,if_pos (by omega),h]
 rfl
def GInv (i:Nat)(gs:List Gr):Prop:=gs.length≤i∧∀g∈gs,g.1.length≤i∧g.1≠[]
theorem GInv.mono {i j:Nat}{gs:List Gr}(h:GInv i gs)(hij:i≤j):GInv j gs:=⟨by have:=h.1;omega,fun g hg=>⟨by have:=(h.2 g hg).1;omega,(h.2 g hg).2⟩⟩
theorem GInv.grow {i:Nat}{gs:List Gr}{n:Nat}{a:Int}{y:Int × Int × Int}(h:GInv i gs):GInv (i+1) (gs.set n ((fV gs n).1++[a],y)):=by
 refine ⟨by rw [List.length_set];have:=h.1;omega,fun g hg=> ?_⟩
 rcases List.mem_or_eq_of_mem_set hg with hg|rfl
 · exact (h.mono (Nat.le_succ i)).2 g hg
 · refine ⟨?_,by simp⟩
   rw [List.length_append,List.length_singleton]
   by_cases hn:n<gs.length
   · have e:fV gs n=gs[n]:=by simp [fV,hn]
     rw [e]
     have:=(h.2 _ (List.getElem_mem hn)).1
     omega
   · have e:fV gs n=([],0,0,0):=by simp [fV,List.getD_eq_getElem?_getD,List.getElem?_eq_none (Nat.le_of_not_lt hn)]
     rw [e];simp
theorem GInv.step {i:Nat}{k:ByteArray}{a:Int}{gs:List Gr}{st:List Ope}{r:List Gr × List Ope}(h:GInv i gs)(hs:ji k a gs st=some r):GInv (i+1) r.1:=by
 unfold ji at hs
 split at hs
 · obtain rfl:=Option.some.inj hs
   refine ⟨by show (gs++_).length≤_;rw [List.length_append,List.length_singleton];have:=h.1;omega,fun g hg=> ?_⟩
   rcases List.mem_append.1 hg with hg|hg
   · exact (h.mono (Nat.le_succ i)).2 g hg
   · rw [List.mem_singleton.1 hg];exact ⟨by simp,by simp⟩
 · split at hs
   · obtain rfl:=Option.some.inj hs
     exact h.mono (Nat.le_succ i)
   · split at hs
     · cases hs
     · split at hs
       · cases hs
       · split at hs
         · obtain rfl:=Option.some.inj hs
           exact h.grow
         · obtain rfl:=Option.some.inj hs
           exact h.grow
theorem xq (ys:List Tk)(ks:List ByteArray)(w:World)(A:Option Addr)(c:Nat)(hC:Kd.C kTk w A ys.length ys)(hc:ys.length≤c)(hG:jg w)(hl:ys.length≤900000)(hkl:ks.length=ys.length)
 (hK:∀(i:Nat) (t:Tk),ys[i]? =some t→∃r,ks[i]? =some r∧rD t r):
 Calls Tryz.prog 41 #[.slice A ys.length c] w fun e w'=>∃v,e= .returned (.tuple #[v,.int .i64 (bZ ks).2.1,.int .i64 (bZ ks).2.2])∧Kd.R kGr 134 w' w.heap.size (fun _=>True) v (bZ ks).1∧Below w.heap.size w w':=by
 have H68:=fun W k=>OCond.jA.calls k _ W (rQ k)
 have HG:=z0 hG
 have HC:=z0 hC
 have HK:=z0 hK
 have HKL:=z0 hkl
 obtain ⟨n,hn⟩:∃n,n=ys.length:=⟨_,rfl⟩
 rw [←hn] at hc hl ⊢
 have HN:=z0 hn
 clear hG hC hK hkl hn
 go_enter Tryz.func41,Tryz.ntmps41
 go_wp2_with (refine lC (.makeSlice 23 (.tmp 13) (.tmp 13)) rfl ?_;go_loud (refine Kd.Ed Kd.string (w0:=w) w.heap.size 9 rfl (N:=14) rfl 23 (.tmp 13) (.tmp 13) rfl (n:Int) rfl rfl Tryz.underlying23 (.string ⟨#[]⟩) 16 (by kernel_rfl) rfl (by decide) (by omega) ⟨#[]⟩ (ok:=fun _=>True) (okp:=fun _=>False) rfl (fun _ h=>h.elim) trivial (by omega) (by simp;omega) (Below.refl _ _) (Nat.le_refl _) ?_;intro v5 w5 ho hb hg5 hat;rw [Int.toNat_natCast] at ho;obtain ⟨b5,hat,_⟩:=hat;obtain ⟨A5,c5,rfl⟩:=Kd.bF ho;rw [List.length_replicate] at ho;obtain ⟨g5,rfl⟩:∃g,A5=some ⟨g,0,none⟩:=(by cases A5 with|none=>simp [Value.ownBlock] at hat|some a=>obtain ⟨g,rfl⟩:=Kd.Ef ho;exact ⟨g,rfl⟩);have HR5:=z0 ho;have HB5:=z0 hb;clear ho hb hg5 hat))
 have HG5:ah (jg w5):=⟨HG.out.below HB5.out⟩
 go_loopg [6,17] n (fun kq v6 v17 w'=>∃(i:Nat),v17= .int .i64 i∧v6= .int .i64 (jL (ks.take i))∧ah (kq+i=n)∧ah (Kd.R Kd.string 9 w' w.heap.size (fun _=>True) (.slice (some ⟨g5,0,none⟩) n c5) (ks.take i++List.replicate (n-i) ⟨#[]⟩))∧ah (Below w.heap.size w w'))
 case atStart=>exact ⟨0,rfl,rfl,⟨rfl⟩,⟨by simpa using HR5.out⟩,HB5⟩
 case round=>
  obtain ⟨i,rfl,rfl,hki,hR,hB⟩:=hrel
  have hki':=hki.out
  cases gk with
  |zero=>
   have hlt:decide ((i:Int)<(n:Int))=false:=decide_eq_false (by omega)
   obtain rfl:i=n:=by omega
   have ht:ks.take i=ks:=List.take_of_length_le (by rw [HKL.out,←HN.out];omega)
   have hRn:=hR.out
   rw [ht,Nat.sub_self,List.replicate_zero,List.append_nil] at hRn
   rw [ht]
   have HR6:=z0 hRn
   clear hR hRn ht
   by_cases hbig:200<jL ks
   · have hb1:decide ((200:Int)<(jL ks:Int))=true:=decide_eq_true (by omega)
     go_wp2
     go_ret3
     have hgr:bZ ks=([],2,0):=by unfold bZ;rw [if_pos hbig]
     rw [hgr]
     exact ⟨_,rfl,Kd.gQ _ _ _ _ _,hB.out⟩
   · have hb1:decide ((200:Int)<(jL ks:Int))=false:=decide_eq_false (by omega)
     have hcell:ah (∀(j:Nat) (r:ByteArray),ks[j]? =some r→wr.cell? ⟨g5,j,none⟩=some (.string r)):=⟨fun j r hj=>by
      obtain ⟨hjl,_⟩:=List.getElem?_eq_some_iff.1 hj
      obtain ⟨c8,_,hM8,hcc8,_⟩:=Kd.kZ HR6.out ⟨#[]⟩ (j:Int) (by omega) (by rw [HKL.out,←HN.out] at hjl;omega)
      obtain rfl:=hM8
      have:=hcc8 0 _ rfl
      rw [Int.toNat_natCast,List.getD_eq_getElem?_getD,hj] at this
      simpa [Kd.string,Kd.scalar] using this⟩
     have HG6:ah (jg wr):=⟨HG.out.below hB.out⟩
     have HBW:=hB
     have HSZ:ah (w.heap.size≤wr.heap.size):=⟨hB.out.size⟩
     have HBIG:=z0 hbig
     clear hB hbig HR6
     go_wp2
     obtain ⟨F,hF⟩:∃F,F=wr.heap.size:=⟨_,rfl⟩
     obtain ⟨w10,hw10⟩:∃w10,w10=wr.alloc (Obj.cells #[Value.slice none 0 0,Value.pointer none] 131):=⟨_,rfl⟩
     rw [←hw10,←hF]
     have HF0:ah (FS F F w10 (.slice none 0 0) (.pointer none) [] []):=⟨⟨Nat.le_refl _,by rw [hw10,hF];exact dh _ _,Kd.uS _ _ _ _ _,rfl,fun x hx=>by cases hx⟩⟩
     have HB10:ah (Below F wr w10):=⟨by rw [hw10,hF];exact aA (Below.refl _ _) _⟩
     have HFE:=z0 hF
     clear hw10 hF
     obtain ⟨W6,hW6⟩:∃W6,W6=wr:=⟨_,rfl⟩
     subst hW6
     have HLE:=z0 hl
     go_loopg [41] i (fun kq v41 w'=>∃(j:Nat) (gs:List Gr) (st:List Ope) (v p:Value),v41= .int .i64 j∧ah (kq+j=i)∧ah (lu (ks.drop j) j gs st=lu ks 0 [] [])∧ah (FS F F w' v p gs st)∧ah (Below F W6 w')∧ah (GInv j gs))
     case atStart=>exact ⟨0,[],[],_,_,rfl,⟨rfl⟩,⟨rfl⟩,HF0,HB10,⟨⟨Nat.le_refl _,fun g hg=>by cases hg⟩⟩⟩
     case round=>
      obtain ⟨j,gs,st,v,p,rfl,hkj,hGo,hFS,hBj,hI⟩:=hrel
      have hkj':=hkj.out
      cases gk with
      |zero=>
       obtain rfl:j=i:=by omega
       have hlt:decide ((j:Int)<(j:Int))=false:=decide_eq_false (by omega)
       have hgo:=hGo.out
       rw [List.drop_eq_nil_of_le (by rw [HKL.out,←HN.out];omega)] at hgo
       cases st with
       |nil=>
        obtain rfl:p= .pointer none:=hFS.out.hst
        have hg0:wr.cell? ⟨F,0,none⟩=some v:=by have:=cell_of_row _ F 0 _ _ _ hFS.out.hc;simpa using this
        have hg1:wr.cell? ⟨F,1,none⟩=some (.pointer none):=by have:=cell_of_row _ F 1 _ _ _ hFS.out.hc;simpa using this
        go_wp2
        go_ret3
        have hgr:bZ ks=(gs,0,0):=by unfold bZ;rw [if_neg HBIG.out,←hgo];rfl
        rw [hgr]
        exact ⟨_,rfl,Kd.S_R (Kd.KD hFS.out.hgs (by rw [HFE.out];exact HSZ.out)),jQ HBW.out HSZ.out (by have:=hBj.out;rwa [HFE.out] at this)⟩
       |cons x st'=>
        obtain ⟨nn,br,hs_⟩:=x
        have hnl:nn<gs.length:=hFS.out.wf _ List.mem_cons_self
        obtain ⟨B,cap,rfl,hB0,hB1,hBc⟩:=Kd.uh hFS.out.hgs (by omega)
        obtain ⟨P,q0,rfl,hP0,hP1,hP2,hP3⟩:=hFS.out.hst
        simp only at hP2
        have hg0:wr.cell? ⟨F,0,none⟩=some (.slice (some ⟨B,0,none⟩) gs.length cap):=by have:=cell_of_row _ F 0 _ _ _ hFS.out.hc;simpa using this
        have hg1:wr.cell? ⟨F,1,none⟩=some (.pointer (some ⟨P,0,none⟩)):=by have:=cell_of_row _ F 1 _ _ _ hFS.out.hc;simpa using this
        have z1:wr.cell? ⟨P,0,none⟩=some (.int .i64 nn):=by have:=cell_of_row _ P 0 _ _ _ hP2;simpa using this
        have hi1:(0:Int)≤(nn:Int):=by omega
        have hi2:(nn:Int)<(gs.length:Int):=by omega
        obtain ⟨oki,cc,hcl,hM,hcc,hfr,hoki,hH⟩:=Kd.lX hFS.out.hgs ([],0,0,0) nn hi1 hi2
        rw [Int.toNat_natCast] at hM hcc hfr
        change kGr.M wr F oki (fV gs nn) cc at hM
        have hgm:fV gs nn∈gs:=by
         have e:fV gs nn=gs[nn]:=by simp [fV,hnl]
         rw [e];exact List.getElem_mem hnl
        have hne:=(hI.out.2 _ hgm).2
        have hgr:bZ ks=([],30,(fV gs nn).1.headD 0):=by unfold bZ;rw [if_neg HBIG.out,←hgo];rfl
        generalize hg:fV gs nn=gg at *
        obtain ⟨ls,b2,b3,b4⟩:=gg
        obtain ⟨_,_,rfl,⟨vl,rfl,hR⟩,⟨_,_,rfl,rfl,⟨_,_,rfl,rfl,rfl⟩⟩⟩:=hM
        simp only at hR hne hgr
        obtain ⟨l0,lt,rfl⟩:∃l0 lt,ls=l0::lt:=by cases ls with|nil=>exact absurd rfl hne|cons a b=>exact ⟨a,b,rfl⟩
        obtain ⟨gl,cl,rfl,_,_,_⟩:=Kd.rC hR (by simp)
        have hv0:wr.cell? ⟨B,nn*4,none⟩=some (.slice (some ⟨gl,0,none⟩) (lt.length+1) cl):=hcc 0 _ rfl
        obtain ⟨cx,_,hMx,hcx,_⟩:=Kd.kZ hR 0 0 (by omega) (by simp)
        obtain rfl:=hMx
        have hx0:wr.cell? ⟨gl,0,none⟩=some (.int .i64 l0):=by have:=hcx 0 _ rfl;simpa [Kd.int,Kd.scalar] using this
        have hz:(0:Int)<((lt.length+1:Nat):Int):=by omega
        have hgr':bZ ks=([],30,l0):=hgr
        have HGR:=z0 hgr'
        clear hgr hgr' hcx hcc hfr hoki hH hR hcl hP2 hP3 hg hgm hne hBc hgo
        go_wp2
        go_quiet (fail)
        go_wp2
        go_ret3
        rw [HGR.out]
        exact ⟨_,rfl,Kd.gQ _ _ _ _ _,jQ HBW.out HSZ.out (by have:=hBj.out;rw [HFE.out] at this;exact aY this _)⟩
      |succ g2=>
       have hlt:decide ((j:Int)<(i:Int))=true:=decide_eq_true (by omega)
       have hji:j<i:=by omega
       have hjj:(0:Int)≤(j:Int):=by omega
       obtain ⟨r,hr⟩:∃r,ks[j]? =some r:=⟨_,List.getElem?_eq_getElem (by rw [HKL.out,←HN.out];exact hji)⟩
       have hgo:=hGo.out
       have hdr:ks.drop j=r::ks.drop (j+1):=by
        obtain ⟨hl',he'⟩:=List.getElem?_eq_some_iff.1 hr
        rw [List.drop_eq_getElem_cons hl',he']
       rw [hdr,lu] at hgo
       have hx0:=(hBj.out.cell (show g5<F by rw [HFE.out];exact World.block_lt_of_cell? W6 _ (hcell.out j r hr))).trans (hcell.out j r hr)
       have HRJ:=z0 hr
       have H69:=GY r (j:Int) F F W6 wr v p gs st hFS.out hBj.out (by have:=hI.out.1;have:=HLE.out;omega) (fun g hg=>by have:=(hI.out.2 g hg).1;have:=HLE.out;omega)
       clear hr hdr
       cases hsf:ji r j gs st with
       |none=>
        rw [hsf] at H69 hgo
        have hgr:bZ ks=([],30,(j:Int)):=by unfold bZ;rw [if_neg HBIG.out,←hgo]
        have HGR:=z0 hgr
        clear hgr hgo hsf
        go_wp2_with (first|(go_at_call 69;go_loud (refine H69.mono ?_;rintro e w9 ⟨rfl,hb9⟩;have HB9:=z0 hb9;clear hb9)))
        go_ret3
        rw [HGR.out]
        exact ⟨_,rfl,Kd.gQ _ _ _ _ _,jQ HBW.out HSZ.out (by have:=HB9.out;rwa [HFE.out] at this)⟩
       |some r'=>
        obtain ⟨gs',st'⟩:=r'
        rw [hsf] at H69 hgo
        have HI':=z0 (hI.out.step hsf)
        have HGO:=z0 hgo
        clear hgo hsf
        go_wp2_with (first|(go_at_call 69;go_loud (refine H69.mono ?_;rintro e w9 ⟨rfl,⟨v',p',hf9⟩,hb9⟩;have HB9:=z0 hb9;have HF9:=z0 hf9;clear hb9 hf9)))
        go_roundg g2
        case measure=>omega
        case rel=>exact ⟨j+1,gs',st',v',p',by simp,⟨by omega⟩,HGO,HF9,HB9,HI'⟩
  |succ g1=>
   have hlt:decide ((i:Int)<(n:Int))=true:=decide_eq_true (by omega)
   have hin:i<n:=by omega
   have HIN:=z0 hin
   obtain ⟨x,hx⟩:∃x,ys[i]? =some x:=⟨_,List.getElem?_eq_getElem (by rw [←HN.out];exact hin)⟩
   obtain ⟨r,hr,kf,hkf⟩:=HK.out i x hx
   obtain ⟨ad,hA,hx0,hx1,hx2,hx3⟩:=uz HC.out i (by rw [←HN.out];exact hin) x hx
   obtain rfl:=hA
   replace hx0:=(hB.out.cell (World.block_lt_of_cell? w _ hx0)).trans hx0
   replace hx1:=(hB.out.cell (World.block_lt_of_cell? w _ hx1)).trans hx1
   replace hx2:=(hB.out.cell (World.block_lt_of_cell? w _ hx2)).trans hx2
   replace hx3:=(hB.out.cell (World.block_lt_of_cell? w _ hx3)).trans hx3
   clear hx
   obtain ⟨kd,bf,tx,a1⟩:=x
   simp only at hx0 hx1 hx2 hx3 hkf
   have HKF:=z0 hkf
   have HRK:=z0 hr
   clear hkf hr
   have hii:(0:Int)≤(i:Int):=by omega
   obtain ⟨ob,hob⟩:∃ob,ob=je r:=⟨_,rfl⟩
   have H68r:=fun W=>H68 W r
   rw [←hob] at H68r
   have HOB:=z0 hob
   clear hob
   have hob1:jL (ks.take i)≤900000:=by have h1:=tC (ks.take i);have h2:=HIN.out;rw [List.length_take] at h1;omega
   cases ob with
   |false=>
    go_wp2_with (first|(go_at_call 67;go_loud (refine (OCond.jd.calls kf kd bf tx a1 r _ HKF.out (HG.out.below (aA hB.out _))).mono ?_;rintro e w7 ⟨rfl,hb7⟩;have HR7:=z0 (Kd.dn (Kd.dP hR.out _) hb7);have HB7:=z0 (ak (aA hB.out _) hb7);obtain ⟨cc,hcl,hM,hcc,hfr⟩:=Kd.kZ HR7.out ⟨#[]⟩ (i:Int) hii (by omega);obtain rfl:=hM;have HCC:=z0 hcc;clear hcc hcl hfr hb7))|(refine lC (.store 9 (.tmp 26) (.tmp 25)) rfl ?_;go_loud (refine Kd.AU Kd.string (w0:=w) w.heap.size rfl rfl 9 (.tmp 26) (.tmp 25) rfl 9 (i:Int) 0 _ r (.string r) [.string r] _ (fun _=>True) (fun _=>False) rfl (by simp [Kd.string,Kd.scalar]) rfl rfl (by kernel_rfl) (fun q hq=>by rw [List.mem_singleton.1 hq];rfl) HR7.out hii (by omega) rfl HCC.out (show 0+1≤1 by omega) rfl (fun _ h=>h.elim) HB7.out ?_;intro w8 ho hb hg2;rw [Dh ks _ r i n HIN.out HRK.out] at ho;have hc8:w8.cell? ⟨g5,i,none⟩=some (.string r):=(by obtain ⟨c8,_,hM8,hcc8,_⟩:=Kd.kZ ho ⟨#[]⟩ (i:Int) hii (by have:=HIN.out;omega);obtain rfl:=hM8;have:=hcc8 0 _ rfl;rw [Di ks _ r i n HRK.out] at this;simpa [Kd.string,Kd.scalar] using this);have HR8:=z0 ho;have HB8:=z0 hb;clear ho hb hg2))|(go_at_call 68;go_loud (refine (H68r _).mono ?_;rintro e w9 ⟨rfl,hd⟩;have HR9:=z0 (Kd.dn HR8.out hd.below);have HB9:=z0 (ak HB8.out hd.below);clear hd)))
    go_roundg g1
    case measure=>omega
    case rel=>exact ⟨i+1,by simp,by rw [take_snoc ks i r HRK.out,lT,if_neg (by rw [←HOB.out];decide)];simp,⟨by omega⟩,HR9,HB9⟩
   |true=>
    go_wp2_with (first|(go_at_call 67;go_loud (refine (OCond.jd.calls kf kd bf tx a1 r _ HKF.out (HG.out.below (aA hB.out _))).mono ?_;rintro e w7 ⟨rfl,hb7⟩;have HR7:=z0 (Kd.dn (Kd.dP hR.out _) hb7);have HB7:=z0 (ak (aA hB.out _) hb7);obtain ⟨cc,hcl,hM,hcc,hfr⟩:=Kd.kZ HR7.out ⟨#[]⟩ (i:Int) hii (by omega);obtain rfl:=hM;have HCC:=z0 hcc;clear hcc hcl hfr hb7))|(refine lC (.store 9 (.tmp 26) (.tmp 25)) rfl ?_;go_loud (refine Kd.AU Kd.string (w0:=w) w.heap.size rfl rfl 9 (.tmp 26) (.tmp 25) rfl 9 (i:Int) 0 _ r (.string r) [.string r] _ (fun _=>True) (fun _=>False) rfl (by simp [Kd.string,Kd.scalar]) rfl rfl (by kernel_rfl) (fun q hq=>by rw [List.mem_singleton.1 hq];rfl) HR7.out hii (by omega) rfl HCC.out (show 0+1≤1 by omega) rfl (fun _ h=>h.elim) HB7.out ?_;intro w8 ho hb hg2;rw [Dh ks _ r i n HIN.out HRK.out] at ho;have hc8:w8.cell? ⟨g5,i,none⟩=some (.string r):=(by obtain ⟨c8,_,hM8,hcc8,_⟩:=Kd.kZ ho ⟨#[]⟩ (i:Int) hii (by have:=HIN.out;omega);obtain rfl:=hM8;have:=hcc8 0 _ rfl;rw [Di ks _ r i n HRK.out] at this;simpa [Kd.string,Kd.scalar] using this);have HR8:=z0 ho;have HB8:=z0 hb;clear ho hb hg2))|(go_at_call 68;go_loud (refine (H68r _).mono ?_;rintro e w9 ⟨rfl,hd⟩;have HR9:=z0 (Kd.dn HR8.out hd.below);have HB9:=z0 (ak HB8.out hd.below);clear hd)))
    go_roundg g1
    case measure=>omega
    case rel=>exact ⟨i+1,by simp,by rw [take_snoc ks i r HRK.out,lT,if_pos HOB.out.symm];simp,⟨by omega⟩,HR9,HB9⟩
abbrev Fl:=ByteArray × ByteArray
abbrev kFl:Kd Fl:=Kd.pair Kd.string Kd.string
theorem oW {w:World}{A:Option Addr}{n:Nat}{xs:List ByteArray}(h:Kd.C Kd.string w A n xs)(i:Nat)(h1:i<n)(x:ByteArray)(hx:xs[i]? =some x):∃ad,A=some ad∧w.cell? (ad.add (i*1))=some (.string x):=by
 obtain ⟨ad,c,e,_,hK,hc0⟩:=Kd.pJ h x i (by omega) (by omega)
 have hxi:xs.getD (i:Int).toNat x=x:=by simp [List.getD_eq_getElem?_getD,hx]
 rw [hxi] at hK
 have hc:∀j u,c[j]? =some u→w.cell? (ad.add (i*1+j))=some u:=hc0
 obtain rfl:=hK
 exact ⟨ad,e,hc 0 _ rfl⟩
theorem oP {w:World}{A:Option Addr}{n:Nat}{xs:List Fl}(h:Kd.C kFl w A n xs)(i:Nat)(h1:i<n)(x:Fl)(hx:xs[i]? =some x):∃ad,A=some ad∧w.cell? (ad.add (i*2))=some (.string x.1)∧w.cell? ⟨(ad.add (i*2)).block,(ad.add (i*2)).off+1,none⟩=some (.string x.2):=by
 obtain ⟨ad,c,e,_,hK,hc0⟩:=Kd.pJ h x i (by omega) (by omega)
 have hxi:xs.getD (i:Int).toNat x=x:=by simp [List.getD_eq_getElem?_getD,hx]
 rw [hxi] at hK
 have hc:∀j u,c[j]? =some u→w.cell? (ad.add (i*2+j))=some u:=hc0
 obtain ⟨_,_,rfl,rfl,rfl⟩:=hK
 exact ⟨ad,e,hc 0 _ rfl,by rw [←gZ _ _ 1 (by omega)];exact hc 1 _ rfl⟩
theorem KQ {w:World}{A:Option Addr}{n:Nat}{xs:List Gr}(h:Kd.C kGr w A n xs)(i:Nat)(h1:i<n)(x:Gr)(hx:xs[i]? =some x):∃ad Al cl,A=some ad∧x.1.length≤cl∧Kd.C (Kd.int .i64) w Al x.1.length x.1∧w.cell? (ad.add (i*4))=some (.slice Al x.1.length cl)∧w.cell? ⟨(ad.add (i*4)).block,(ad.add (i*4)).off+1,none⟩=some (.int .i64 x.2.1)∧w.cell? ⟨(ad.add (i*4)).block,(ad.add (i*4)).off+2,none⟩=some (.int .i64 x.2.2.1)∧w.cell? ⟨(ad.add (i*4)).block,(ad.add (i*4)).off+3,none⟩=some (.int .i64 x.2.2.2):=by
 obtain ⟨ad,c,e,_,hK,hc0⟩:=Kd.pJ h x i (by omega) (by omega)
 have hxi:xs.getD (i:Int).toNat x=x:=by simp [List.getD_eq_getElem?_getD,hx]
 rw [hxi] at hK
 have hc:∀j u,c[j]? =some u→w.cell? (ad.add (i*4+j))=some u:=hc0
 obtain ⟨_,_,rfl,⟨Al,cl,rfl,hle,hC⟩,⟨_,_,rfl,rfl,⟨_,_,rfl,rfl,rfl⟩⟩⟩:=hK
 exact ⟨ad,Al,cl,e,hle,hC,hc 0 _ rfl,by rw [←gZ _ _ 1 (by omega)];exact hc 1 _ rfl,by rw [←gZ _ _ 2 (by omega)];exact hc 2 _ rfl,by rw [←gZ _ _ 3 (by omega)];exact hc 3 _ rfl⟩
theorem any_take_succ {α:Type}(zs:List α)(p:α→Bool)(i:Nat)(x:α)(hx:zs[i]? =some x):(zs.take (i+1)).any p=((zs.take i).any p||p x):=by
 rw [take_snoc zs i x hx,List.any_append];simp
theorem ug {α:Type}(zs:List α)(p:α→Bool)(i:Nat)(x:α)(hx:zs[i]? =some x)(h:p x=true):zs.any p=true:=by
 obtain ⟨hi,he⟩:=List.getElem?_eq_some_iff.1 hx
 exact List.any_eq_true.2 ⟨x,by rw [←he];exact List.getElem_mem hi,h⟩
theorem Ju (zs:List ByteArray)(p:ByteArray→Bool)(w:World)(A:Option Addr)(c:Nat)(HC:Kd.C Kd.string w A zs.length zs)(hl:zs.length≤1000000)
 (hcall:∀(i:Nat) (x:ByteArray) (w':World),zs[i]? =some x→Below w.heap.size w w'→Calls Tryz.prog 100 #[.string x] w' fun e w''=>e= .returned (.bool (p x))∧Below w'.heap.size w' w''):
 Calls Tryz.prog 145 #[.slice A zs.length c,.func (.func 100) #[] #[]] w fun e w'=>(∃r:Int,e= .returned (.int .i64 r)∧decide (r≥0)=zs.any p)∧Below w.heap.size w w':=by
 have HCA:=z0 HC
 obtain ⟨n,hn⟩:∃n,n=zs.length:=⟨_,rfl⟩
 rw [←hn] at hl ⊢
 have HN:=z0 hn
 have HCALL:=z0 hcall
 clear HC hn hcall
 go_enter Tryz.func145,Tryz.ntmps145
 go_wp2
 go_loopg [8] n (fun kq v8 w'=>∃(i:Nat),v8= .int .i64 i∧ah (kq+i=n)∧ah ((zs.take i).any p=false)∧ah (Below w.heap.size w w'))
 case atStart=>exact ⟨0,rfl,⟨rfl⟩,⟨rfl⟩,⟨Below.refl _ _⟩⟩
 case round=>
  obtain ⟨i,rfl,hki,hno,hB⟩:=hrel
  have hki':=hki.out
  cases gk with
  |zero=>
   have hlt:decide ((i:Int)<(n:Int))=false:=decide_eq_false (by omega)
   go_wp2
   go_ret
   refine ⟨⟨_,rfl,?_⟩,hB.out⟩
   have:=hno.out
   rw [List.take_of_length_le (by rw [←HN.out];omega)] at this
   rw [this];rfl
  |succ g1=>
   have hlt:decide ((i:Int)<(n:Int))=true:=decide_eq_true (by omega)
   have hii:(0:Int)≤(i:Int):=by omega
   obtain ⟨x,hx⟩:∃x,zs[i]? =some x:=⟨_,List.getElem?_eq_getElem (by rw [←HN.out];omega)⟩
   obtain ⟨ad,hA,hx0⟩:=oW HCA.out i (by rw [←HN.out];omega) x hx
   obtain rfl:=hA
   replace hx0:=(hB.out.cell (World.block_lt_of_cell? w _ hx0)).trans hx0
   rw [Nat.mul_one] at hx0
   have HX:=z0 hx
   clear hx
   obtain ⟨b,hb⟩:∃b,b=p x:=⟨_,rfl⟩
   have hC:=HCALL.out i x wr HX.out hB.out
   rw [←hb] at hC
   have HBP:=z0 hb
   clear hb
   cases b with
   |false=>
    go_wp2_with (go_at_call 100;go_loud (refine hC.mono ?_;rintro e w9 ⟨rfl,hb9⟩;have HB9:=z0 (ak hB.out hb9);clear hb9))
    go_roundg g1
    case measure=>omega
    case rel=>exact ⟨i+1,by (try simp),⟨by omega⟩,⟨by rw [any_take_succ zs p i _ HX.out,hno.out,←HBP.out];rfl⟩,HB9⟩
   |true=>
    go_wp2_with (go_at_call 100;go_loud (refine hC.mono ?_;rintro e w9 ⟨rfl,hb9⟩;have HB9:=z0 (ak hB.out hb9);clear hb9))
    go_ret
    exact ⟨⟨_,rfl,by rw [ug zs p i _ HX.out HBP.out.symm];simp⟩,HB9.out⟩
theorem Jv (zs:List ByteArray)(p:ByteArray→Bool)(w:World)(A:Option Addr)(c:Nat)(HC:Kd.C Kd.string w A zs.length zs)(hl:zs.length≤1000000)
 (hcall:∀(i:Nat) (x:ByteArray) (w':World),zs[i]? =some x→Below w.heap.size w w'→Calls Tryz.prog 100 #[.string x] w' fun e w''=>e= .returned (.bool (p x))∧Below w'.heap.size w' w''):
 Calls Tryz.prog 98 #[.slice A zs.length c,.func (.func 100) #[] #[]] w fun e w'=>e= .returned (.bool (zs.any p))∧Below w.heap.size w w':=by
 have HI:=Ju zs p w A c HC hl hcall
 obtain ⟨n,hn⟩:∃n,n=zs.length:=⟨_,rfl⟩
 rw [←hn] at HI ⊢
 clear HC hn hcall hl
 go_enter Tryz.func98,Tryz.ntmps98
 go_wp2_with (go_at_call 145;go_loud (refine HI.mono ?_;rintro e w9 ⟨⟨r,rfl,hr⟩,hb9⟩;have HB9:=z0 hb9;have HR:=z0 hr;clear hb9 hr))
 go_ret
 exact ⟨by rw [←HR.out];first|rfl|simp,HB9.out⟩
theorem LY (zs:List Fl)(p:Fl→Bool)(w:World)(A:Option Addr)(c:Nat)(HC:Kd.C kFl w A zs.length zs)(hl:zs.length≤1000000)
 (hcall:∀(i:Nat) (x:Fl) (w':World),zs[i]? =some x→Below w.heap.size w w'→Calls Tryz.prog 58 #[.agg #[.string x.1,.string x.2]] w' fun e w''=>e= .returned (.bool (p x))∧Below w'.heap.size w' w''):
 Calls Tryz.prog 97 #[.slice A zs.length c,.func (.func 58) #[] #[]] w fun e w'=>(∃r:Int,e= .returned (.int .i64 r)∧decide (r≥0)=zs.any p)∧Below w.heap.size w w':=by
 have HCA:=z0 HC
 obtain ⟨n,hn⟩:∃n,n=zs.length:=⟨_,rfl⟩
 rw [←hn] at hl ⊢
 have HN:=z0 hn
 have HCALL:=z0 hcall
 clear HC hn hcall
 go_enter Tryz.func97,Tryz.ntmps97
 go_wp2
 go_loopg [8] n (fun kq v8 w'=>∃(i:Nat),v8= .int .i64 i∧ah (kq+i=n)∧ah ((zs.take i).any p=false)∧ah (Below w.heap.size w w'))
 case atStart=>exact ⟨0,rfl,⟨rfl⟩,⟨rfl⟩,⟨Below.refl _ _⟩⟩
 case round=>
  obtain ⟨i,rfl,hki,hno,hB⟩:=hrel
  have hki':=hki.out
  cases gk with
  |zero=>
   have hlt:decide ((i:Int)<(n:Int))=false:=decide_eq_false (by omega)
   go_wp2
   go_ret
   refine ⟨⟨_,rfl,?_⟩,hB.out⟩
   have:=hno.out
   rw [List.take_of_length_le (by rw [←HN.out];omega)] at this
   rw [this];rfl
  |succ g1=>
   have hlt:decide ((i:Int)<(n:Int))=true:=decide_eq_true (by omega)
   have hii:(0:Int)≤(i:Int):=by omega
   obtain ⟨x,hx⟩:∃x,zs[i]? =some x:=⟨_,List.getElem?_eq_getElem (by rw [←HN.out];omega)⟩
   obtain ⟨ad,hA,hx0,hx1⟩:=oP HCA.out i (by rw [←HN.out];omega) x hx
   obtain rfl:=hA
   replace hx0:=(hB.out.cell (World.block_lt_of_cell? w _ hx0)).trans hx0
   replace hx1:=(hB.out.cell (World.block_lt_of_cell? w _ hx1)).trans hx1
   have HX:=z0 hx
   clear hx
   obtain ⟨b,hb⟩:∃b,b=p x:=⟨_,rfl⟩
   have hC:=HCALL.out i x wr HX.out hB.out
   rw [←hb] at hC
   have HBP:=z0 hb
   clear hb
   obtain ⟨x1,x2⟩:=x
   simp only at hx0 hx1 hC
   cases b with
   |false=>
    go_wp2_with (go_at_call 58;go_loud (refine hC.mono ?_;rintro e w9 ⟨rfl,hb9⟩;have HB9:=z0 (ak hB.out hb9);clear hb9))
    go_roundg g1
    case measure=>omega
    case rel=>exact ⟨i+1,by (try simp),⟨by omega⟩,⟨by rw [any_take_succ zs p i _ HX.out,hno.out,←HBP.out];rfl⟩,HB9⟩
   |true=>
    go_wp2_with (go_at_call 58;go_loud (refine hC.mono ?_;rintro e w9 ⟨rfl,hb9⟩;have HB9:=z0 (ak hB.out hb9);clear hb9))
    go_ret
    exact ⟨⟨_,rfl,by rw [ug zs p i _ HX.out HBP.out.symm];simp⟩,HB9.out⟩
theorem LZ (zs:List Fl)(p:Fl→Bool)(w:World)(A:Option Addr)(c:Nat)(HC:Kd.C kFl w A zs.length zs)(hl:zs.length≤1000000)
 (hcall:∀(i:Nat) (x:Fl) (w':World),zs[i]? =some x→Below w.heap.size w w'→Calls Tryz.prog 58 #[.agg #[.string x.1,.string x.2]] w' fun e w''=>e= .returned (.bool (p x))∧Below w'.heap.size w' w''):
 Calls Tryz.prog 57 #[.slice A zs.length c,.func (.func 58) #[] #[]] w fun e w'=>e= .returned (.bool (zs.any p))∧Below w.heap.size w w':=by
 have HI:=LY zs p w A c HC hl hcall
 obtain ⟨n,hn⟩:∃n,n=zs.length:=⟨_,rfl⟩
 rw [←hn] at HI ⊢
 clear HC hn hcall hl
 go_enter Tryz.func57,Tryz.ntmps57
 go_wp2_with (go_at_call 97;go_loud (refine HI.mono ?_;rintro e w9 ⟨⟨r,rfl,hr⟩,hb9⟩;have HB9:=z0 hb9;have HR:=z0 hr;clear hb9 hr))
 go_ret
 exact ⟨by rw [←HR.out];first|rfl|simp,HB9.out⟩
theorem LW (cp:Value)(zs:List Gr)(p:Gr→Bool)(w:World)(A:Option Addr)(c:Nat)(HC:Kd.C kGr w A zs.length zs)(hl:zs.length≤1000000)
 (hcall:∀(i:Nat) (x:Gr) (w':World) (Al:Option Addr) (cl:Nat),zs[i]? =some x→Below w.heap.size w w'→x.1.length≤cl→Kd.C (Kd.int .i64) w Al x.1.length x.1→Calls Tryz.prog 75 #[.agg #[.slice Al x.1.length cl,.int .i64 x.2.1,.int .i64 x.2.2.1,.int .i64 x.2.2.2],cp] w' fun e w''=>e= .returned (.bool (p x))∧Below w'.heap.size w' w''):
 Calls Tryz.prog 133 #[.slice A zs.length c,.func (.func 75) #[] #[cp]] w fun e w'=>(∃r:Int,e= .returned (.int .i64 r)∧decide (r≥0)=zs.any p)∧Below w.heap.size w w':=by
 have HCA:=z0 HC
 obtain ⟨n,hn⟩:∃n,n=zs.length:=⟨_,rfl⟩
 rw [←hn] at hl ⊢
 have HN:=z0 hn
 have HCALL:=z0 hcall
 clear HC hn hcall
 go_enter Tryz.func133,Tryz.ntmps133
 go_wp2
 go_loopg [8] n (fun kq v8 w'=>∃(i:Nat),v8= .int .i64 i∧ah (kq+i=n)∧ah ((zs.take i).any p=false)∧ah (Below w.heap.size w w'))
 case atStart=>exact ⟨0,rfl,⟨rfl⟩,⟨rfl⟩,⟨Below.refl _ _⟩⟩
 case round=>
  obtain ⟨i,rfl,hki,hno,hB⟩:=hrel
  have hki':=hki.out
  cases gk with
  |zero=>
   have hlt:decide ((i:Int)<(n:Int))=false:=decide_eq_false (by omega)
   go_wp2
   go_ret
   refine ⟨⟨_,rfl,?_⟩,hB.out⟩
   have:=hno.out
   rw [List.take_of_length_le (by rw [←HN.out];omega)] at this
   rw [this];rfl
  |succ g1=>
   have hlt:decide ((i:Int)<(n:Int))=true:=decide_eq_true (by omega)
   have hii:(0:Int)≤(i:Int):=by omega
   obtain ⟨x,hx⟩:∃x,zs[i]? =some x:=⟨_,List.getElem?_eq_getElem (by rw [←HN.out];omega)⟩
   obtain ⟨ad,Al,cl,hA,hle,hCl,hx0,hx1,hx2,hx3⟩:=KQ HCA.out i (by rw [←HN.out];omega) x hx
   obtain rfl:=hA
   replace hx0:=(hB.out.cell (World.block_lt_of_cell? w _ hx0)).trans hx0
   replace hx1:=(hB.out.cell (World.block_lt_of_cell? w _ hx1)).trans hx1
   replace hx2:=(hB.out.cell (World.block_lt_of_cell? w _ hx2)).trans hx2
   replace hx3:=(hB.out.cell (World.block_lt_of_cell? w _ hx3)).trans hx3
   have HX:=z0 hx
   clear hx
   obtain ⟨b,hb⟩:∃b,b=p x:=⟨_,rfl⟩
   have hC:=HCALL.out i x wr Al cl HX.out hB.out hle hCl
   rw [←hb] at hC
   have HBP:=z0 hb
   clear hb
   obtain ⟨x1,x2,x3,x4⟩:=x
   simp only at hx0 hx1 hx2 hx3 hC
   obtain ⟨ln,hln⟩:∃ln,ln=x1.length:=⟨_,rfl⟩
   rw [←hln] at hx0 hC
   clear hln hle hCl
   cases b with
   |false=>
    go_wp2_with (go_at_call 75;go_loud (refine hC.mono ?_;rintro e w9 ⟨rfl,hb9⟩;have HB9:=z0 (ak hB.out hb9);clear hb9))
    go_roundg g1
    case measure=>omega
    case rel=>exact ⟨i+1,by (try simp),⟨by omega⟩,⟨by rw [any_take_succ zs p i _ HX.out,hno.out,←HBP.out];rfl⟩,HB9⟩
   |true=>
    go_wp2_with (go_at_call 75;go_loud (refine hC.mono ?_;rintro e w9 ⟨rfl,hb9⟩;have HB9:=z0 (ak hB.out hb9);clear hb9))
    go_ret
    exact ⟨⟨_,rfl,by rw [ug zs p i _ HX.out HBP.out.symm];simp⟩,HB9.out⟩
theorem LX (cp:Value)(zs:List Gr)(p:Gr→Bool)(w:World)(A:Option Addr)(c:Nat)(HC:Kd.C kGr w A zs.length zs)(hl:zs.length≤1000000)
 (hcall:∀(i:Nat) (x:Gr) (w':World) (Al:Option Addr) (cl:Nat),zs[i]? =some x→Below w.heap.size w w'→x.1.length≤cl→Kd.C (Kd.int .i64) w Al x.1.length x.1→Calls Tryz.prog 75 #[.agg #[.slice Al x.1.length cl,.int .i64 x.2.1,.int .i64 x.2.2.1,.int .i64 x.2.2.2],cp] w' fun e w''=>e= .returned (.bool (p x))∧Below w'.heap.size w' w''):
 Calls Tryz.prog 74 #[.slice A zs.length c,.func (.func 75) #[] #[cp]] w fun e w'=>e= .returned (.bool (zs.any p))∧Below w.heap.size w w':=by
 have HI:=LW cp zs p w A c HC hl hcall
 obtain ⟨n,hn⟩:∃n,n=zs.length:=⟨_,rfl⟩
 rw [←hn] at HI ⊢
 clear HC hn hcall hl
 go_enter Tryz.func74,Tryz.ntmps74
 go_wp2_with (go_at_call 133;go_loud (refine HI.mono ?_;rintro e w9 ⟨⟨r,rfl,hr⟩,hb9⟩;have HB9:=z0 hb9;have HR:=z0 hr;clear hb9 hr))
 go_ret
 exact ⟨by rw [←HR.out];first|rfl|simp,HB9.out⟩
def D7 (x:ByteArray):Bool:=x.toList==([]:List UInt8)||(x.toList==([46]:List UInt8)||x.toList==([46,46]:List UInt8))
theorem Kq (x:ByteArray)(w:World):Calls Tryz.prog 100 #[.string x] w fun e w'=>e= .returned (.bool (D7 x))∧Below w.heap.size w w':=by
 unfold D7
 by_cases h1:x.toList=([]:List UInt8)
 · have c1:(x.toList==([]:List UInt8))=true:=beq_iff_eq.mpr h1
   rw [c1]
   clear h1
   go_enter Tryz.func100,Tryz.ntmps100
   go_wp2
   go_ret
   exact ⟨rfl,Below.refl _ _⟩
 · have c1:(x.toList==([]:List UInt8))=false:=beq_eq_false_iff_ne.mpr h1
   rw [c1]
   clear h1
   by_cases h2:x.toList=([46]:List UInt8)
   · have c2:(x.toList==([46]:List UInt8))=true:=beq_iff_eq.mpr h2
     rw [c2]
     clear h2
     go_enter Tryz.func100,Tryz.ntmps100
     go_wp2
     go_ret
     exact ⟨rfl,Below.refl _ _⟩
   · have c2:(x.toList==([46]:List UInt8))=false:=beq_eq_false_iff_ne.mpr h2
     rw [c2]
     clear h2
     go_enter Tryz.func100,Tryz.ntmps100
     go_wp2
     go_ret
     exact ⟨by simp,Below.refl _ _⟩
def kV (s:ByteArray):List ByteArray:=Lib.splitB ⟨#[47]⟩ 0 (Lib.countB s ⟨#[47]⟩) s
def kC (s:ByteArray):Bool:= !((kV s).any D7)
theorem yZ (s:ByteArray):(kV s).length=Lib.countB s ⟨#[47]⟩+1:=Lib.splitB_all ⟨#[47]⟩ (by decide) 0 _ s rfl
theorem GX {w:World}{g:Nat}{zs:List ByteArray}{t:TypeId}(h:w.heap[g]? =some (.cells (zs.map Value.string).toArray t (0,0)))(hl:zs.length≤9223372036854775807):Kd.C Kd.string w (some ⟨g,0,none⟩) zs.length zs:=by
 refine ⟨rfl,hl,fun hn=>⟨_,rfl,fun j p hj=>⟨[.string p],rfl,rfl,fun i u hu=> ?_⟩⟩⟩
 cases i with
 |zero=>
  obtain rfl:Value.string p=u:=by simpa using hu
  have h1:=cell_of_row w g j _ _ _ h
  have e:((⟨g,0,none⟩:Addr).add (j*Kd.string.sz+0))=⟨g,j,none⟩:=by
   show (⟨g,0,none⟩:Addr).add (j*1+0)=_
   rw [Nat.mul_one,Nat.add_zero,add_plain]
  rw [e,h1]
  simp [hj]
 |succ i=>simp at hu
theorem DZ (s:ByteArray)(w:World)(hG:jg w)(hs:s.size≤900000):
 Calls Tryz.prog 59 #[.string s] w fun e w'=>e= .returned (.bool (kC s))∧Below w.heap.size w w':=by
 obtain ⟨m,hm⟩:=hG.1.1
 have H99:=Tryz.strings_Split s ⟨#[47]⟩ m w (by omega) hm (by decide)
 have hpl:(kV s).length≤1000000:=by
  rw [yZ]
  have:=Lib.countB_le ⟨#[47]⟩ (by decide) s.size s (Nat.le_refl _)
  omega
 rw [←yZ] at H99
 have hP:kC s= !((kV s).any D7):=rfl
 rw [hP]
 change Calls Tryz.prog 99 _ w (fun e w'=>e= .returned (.slice (some ⟨w.heap.size,0,none⟩) (kV s).length (kV s).length)∧w'=w.alloc (.cells ((kV s).map Value.string).toArray 9)) at H99
 generalize kV s=zs at *
 have H98:=Jv zs D7 (w.alloc (.cells (zs.map Value.string).toArray 9)) (some ⟨w.heap.size,0,none⟩) zs.length (GX (dh _ _) (by omega)) hpl (fun i x w' _ _=>Kq x w')
 obtain ⟨n,hn⟩:∃n,n=zs.length:=⟨_,rfl⟩
 rw [←hn] at H99 H98
 obtain ⟨W1,hW1⟩:∃W1,W1=w.alloc (.cells (zs.map Value.string).toArray 9):=⟨_,rfl⟩
 rw [←hW1] at H99 H98
 have HB1:ah (Below w.heap.size w W1):=⟨by rw [hW1];exact aA (Below.refl _ _) _⟩
 clear hn hW1 hpl hP hm hG
 go_enter Tryz.func59,Tryz.ntmps59
 go_wp2_with (first|(go_at_call 99;go_loud (refine H99.mono ?_;rintro e w7 ⟨rfl,rfl⟩))|(go_at_call 98;go_loud (refine H98.mono ?_;rintro e w9 ⟨rfl,hb9⟩;have HB9:=z0 (ak HB1.out hb9);clear hb9)))
 go_ret
 exact ⟨rfl,HB9.out⟩
def inB (i:Int)(g:Gr):Bool:=decide (g.1.getD 1 0<i)&&decide (i<g.1.getD (g.1.length-1) 0)
def lY (gs:List Gr)(i:Int):Bool:= !(gs.any (inB i))
theorem ints_at {w:World}{A:Option Addr}{xs:List Int}(h:Kd.C (Kd.int .i64) w A xs.length xs)(i:Nat)(h1:i<xs.length):∃ad,A=some ad∧w.cell? (ad.add i)=some (.int .i64 (xs.getD i 0)):=by
 obtain ⟨ad,c,e,_,hK,hc0⟩:=Kd.pJ h 0 i (by omega) (by omega)
 have hc:∀j u,c[j]? =some u→w.cell? (ad.add (i*1+j))=some u:=hc0
 obtain rfl:=hK
 refine ⟨ad,e,?_⟩
 have:=hc 0 _ rfl
 rwa [Nat.mul_one,Nat.add_zero] at this
theorem FN (g:Gr)(i:Int)(CB:Nat)(w:World)(Al:Option Addr)(cl:Nat)(hle:g.1.length≤cl)(hC:Kd.C (Kd.int .i64) w Al g.1.length g.1)(h2:2≤g.1.length)(hl:g.1.length≤1000000)(hcell:w.cell? ⟨CB,0,none⟩=some (.int .i64 i)):
 Calls Tryz.prog 75 #[.agg #[.slice Al g.1.length cl,.int .i64 g.2.1,.int .i64 g.2.2.1,.int .i64 g.2.2.2],.pointer (some ⟨CB,0,none⟩)] w fun e w'=>e= .returned (.bool (inB i g))∧Below w.heap.size w w':=by
 obtain ⟨xs,g2,g3,g4⟩:=g
 obtain ⟨k,hk⟩:∃k,xs.length=k+1:=⟨xs.length-1,by simp only at h2;omega⟩
 simp only at hle hC h2 hl ⊢
 obtain ⟨ad,rfl,hx1⟩:=ints_at hC 1 (by omega)
 obtain ⟨ad',ha,hx2⟩:=ints_at hC k (by omega)
 obtain rfl:ad=ad':=by injection ha
 have hin:inB i (xs,g2,g3,g4)=(decide (xs.getD 1 0<i)&&decide (i<xs.getD k 0)):=by unfold inB;simp only [hk,Nat.add_sub_cancel]
 rw [hin]
 generalize xs.getD 1 0=a1 at *
 generalize xs.getD k 0=a2 at *
 rw [hk] at hle h2 hl ⊢
 rw [show ad.add 1=⟨ad.block,ad.off+1,none⟩ by simp [Addr.add]] at hx1
 clear hC hin ha hk
 have hn0:(0:Int)<(k:Int):=by omega
 have hw1:IntKind.i64.wrap (k:Int)=(k:Int):=IntWalk.i64_in _ (by omega)
 have hw2:wrap64 (k:Int)=(k:Int):=wr (by omega) (by omega)
 have hn4:(1:Int)<(k:Int)+1:=by omega
 have hn5:(k:Int)<(k:Int)+1:=by omega
 have hn1:(1:Int)<((k+1:Nat):Int):=by omega
 have hn2:(0:Int)≤(k:Int):=by omega
 have hn3:(k:Int)<((k+1:Nat):Int):=by omega
 by_cases hg:a1<i
 · have hd:decide (i>a1)=true:=decide_eq_true hg
   have hd':decide (a1<i)=true:=decide_eq_true hg
   go_enter Tryz.func75,Tryz.ntmps75
   go_wp2
   obtain ⟨W1,hW1⟩:∃W1,W1=w.alloc (Obj.cells #[Value.slice (some ad) (k+1) cl,Value.int IntKind.i64 g2,Value.int IntKind.i64 g3,Value.int IntKind.i64 g4] 134):=⟨_,rfl⟩
   rw [←hW1]
   have HB1:ah (Below w.heap.size w W1):=⟨by rw [hW1];exact aA (Below.refl _ _) _⟩
   have hb0:W1.cell? ⟨w.heap.size,0,none⟩=some (.slice (some ad) (k+1) cl):=by have:=cell_of_row W1 w.heap.size 0 _ _ _ (by rw [hW1];exact dh _ _);simpa using this
   replace hcell:=(HB1.out.cell (World.block_lt_of_cell? w _ hcell)).trans hcell
   replace hx1:=(HB1.out.cell (World.block_lt_of_cell? w _ hx1)).trans hx1
   replace hx2:=(HB1.out.cell (World.block_lt_of_cell? w _ hx2)).trans hx2
   clear hW1
   go_quiet (fail)
   go_wp2
   go_ret
   exact ⟨by rw [hd'];rfl,(by have:=HB1.out;exact aY this _)⟩
 · have hd:decide (i>a1)=false:=decide_eq_false hg
   have hd':decide (a1<i)=false:=decide_eq_false hg
   go_enter Tryz.func75,Tryz.ntmps75
   go_wp2
   obtain ⟨W1,hW1⟩:∃W1,W1=w.alloc (Obj.cells #[Value.slice (some ad) (k+1) cl,Value.int IntKind.i64 g2,Value.int IntKind.i64 g3,Value.int IntKind.i64 g4] 134):=⟨_,rfl⟩
   rw [←hW1]
   have HB1:ah (Below w.heap.size w W1):=⟨by rw [hW1];exact aA (Below.refl _ _) _⟩
   have hb0:W1.cell? ⟨w.heap.size,0,none⟩=some (.slice (some ad) (k+1) cl):=by have:=cell_of_row W1 w.heap.size 0 _ _ _ (by rw [hW1];exact dh _ _);simpa using this
   replace hcell:=(HB1.out.cell (World.block_lt_of_cell? w _ hcell)).trans hcell
   replace hx1:=(HB1.out.cell (World.block_lt_of_cell? w _ hx1)).trans hx1
   replace hx2:=(HB1.out.cell (World.block_lt_of_cell? w _ hx2)).trans hx2
   clear hW1
   go_quiet (fail)
   go_wp2
   go_ret
   exact ⟨by rw [hd'];rfl,(by have:=HB1.out;exact aY this _)⟩
theorem He (gs:List Gr)(i:Int)(w:World)(A:Option Addr)(c:Nat)(HC:Kd.C kGr w A gs.length gs)(hl:gs.length≤1000000)(h2:∀g∈gs,2≤g.1.length∧g.1.length≤1000000):
 Calls Tryz.prog 43 #[.slice A gs.length c,.int .i64 i] w fun e w'=>e= .returned (.bool (lY gs i))∧Below w.heap.size w w':=by
 obtain ⟨W1,hW1⟩:∃W1,W1=w.alloc (.cells #[Value.int .i64 i] 3):=⟨_,rfl⟩
 have HB1:Below w.heap.size w W1:=by rw [hW1];exact aA (Below.refl _ _) _
 have hc1:W1.cell? ⟨w.heap.size,0,none⟩=some (.int .i64 i):=by have:=cell_of_row W1 w.heap.size 0 _ _ _ (by rw [hW1];exact dh _ _);simpa using this
 have H74:=LX (.pointer (some ⟨w.heap.size,0,none⟩)) gs (inB i) W1 A c (Kd.fC HC HB1) hl (fun j x w' Al cl hx hb hle hC=>FN x i w.heap.size w' Al cl hle (Kd.fC hC hb) (h2 x (List.mem_of_getElem? hx)).1 (h2 x (List.mem_of_getElem? hx)).2 ((hb.cell (World.block_lt_of_cell? W1 _ hc1)).trans hc1))
 obtain ⟨n,hn⟩:∃n,n=gs.length:=⟨_,rfl⟩
 rw [←hn] at H74 ⊢
 have hS:lY gs i= !(gs.any (inB i)):=rfl
 rw [hS]
 have HBB:=z0 HB1
 have HW:=z0 hW1
 clear hn HB1 hc1 hS HC hl h2 hW1
 rw [HW.out] at H74 HBB
 clear HW
 go_enter Tryz.func43,Tryz.ntmps43
 go_wp2_with (go_at_call 74;go_loud (refine H74.mono ?_;rintro e w9 ⟨rfl,hb9⟩;have HB9:=z0 (ak HBB.out hb9);clear hb9))
 go_ret
 exact ⟨rfl,HB9.out⟩
end Go.Proofs.YtolaiebjmhieiaaGreatDoor.OScan
end
