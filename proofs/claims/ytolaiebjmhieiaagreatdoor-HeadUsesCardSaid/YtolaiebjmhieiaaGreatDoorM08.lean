/- Parts of the proof of HeadUses; no condition. -/
import Derived.Test.YtolaiebjmhieiaaGreatDoorM07
import Derived.Test.YtolaiebjmhieiaaGreatDoorM04
import Derived.Test.YtolaiebjmhieiaaGreatDoorM06
import Derived.Test.YtolaiebjmhieiaaGreatDoorM01
import Derived.Laws.EntriesVeiled
import Derived.Lib.SplitLaws
import Derived.Shelf.Spec.SlicesInsert
import Derived.Shelf.Spec.SlicesInsertGrow
import Derived.Ground.Names2Prog
import Derived.Test.YtolaiebjmhieiaaGreatDoorProg
import Derived.Shelf.Strings.Trim
import Derived.Shelf.Small.Utf8
import Derived.Shelf.Small.Bits
import Derived.Shelf.Small.Strs
import Derived.Shelf.Small.Wraps
import Derived.Shelf.Utf8.RuneCount
import Derived.Shelf.Strconv.Itoa0
import Derived.Shelf.Strings.Search1
import Derived.Shelf.Strings.Search2
import Derived.Shelf.Strings.Search3
import Derived.Shelf.Strings.Count
import Derived.Shelf.LaysM
import Derived.Shelf.Strings.Shaped
import Derived.Shelf.Sort.Plain
import Derived.Shelf.Strings.LastIndex
import Derived.Shelf.Strings.Prefix
import Derived.Shelf.Strings.Split
import Derived.Shelf.Strings.Fields
import Derived.Shelf.Strings.SplitShaped
import Derived.Shelf.Strings.Runes
import Derived.Shelf.Strings.RuneCount
import Derived.Shelf.Strings.AsciiSet
import Derived.Shelf.Strings.Explode
import Derived.Shelf.Slices.Turned
import Derived.Shelf.Slices.ReverseS
import Derived.Shelf.Slices.Clone
import Derived.Shelf.Slices.Cells
import Derived.Shelf.Slices.In.SortNone
import Derived.Ground.SlgnProg
import Derived.Ground.NamesProg
import Derived.StillTailTactics
import Derived.Below
import Derived.Deep.Draws
import Derived.Deep.AppendLies
import Derived.Maps.AppendAt
import Derived.OwnWalk
import Derived.Laws.BytesArg
import Derived.Laws.MakeOwn
import Derived.Laws.OwnMore
import Derived.Deep.OwnRows
import Derived.Tactics
import Derived.Lib.ConvBytes
import Derived.Laws.Slices
import Derived.WalkKit
import Derived.KernelRfl
import Derived.RowKit3
import Derived.Deep.LoopGhost
import Derived.Deep.QuietTactic
import Derived.BigQuiet
import Derived.WideLaws
import Derived.Deep.DeepCutAuto
import Derived.Deep.CutBlock
import Derived.Deep.RegionHeld3
import Derived.Laws.Rows
import Derived.Lib.AppendStr
import Derived.ArgAppend
import Derived.Laws.IdiomCopy
import Derived.OrdersHeld
import Derived.Laws.BitsLemmas
import Derived.RowKit
import Derived.Conc.MuLib
import Derived.Conc.MuLone
import Derived.Defers
set_option maxHeartbeats 8000000
set_option maxRecDepth 100000
set_option linter.unusedVariables false
set_option linter.unusedSimpArgs false
section
namespace Go.Proofs.YtolaiebjmhieiaaGreatDoor.OScan
open Go.RowKit YtolaiebjmhieiaaGreatDoorW.PrintWords YtolaiebjmhieiaaGreatDoorW.PrintLast YtolaiebjmhieiaaGreatDoorW.PrintMore
abbrev Fl:=ByteArray × ByteArray
abbrev kFl:Kd Fl:=Kd.pair Kd.string Kd.string
theorem str_at {w:World}{A:Option Addr}{n:Nat}{xs:List ByteArray}(h:Kd.C Kd.string w A n xs)(i:Nat)(h1:i<n)(x:ByteArray)(hx:xs[i]? =some x):∃ad,A=some ad∧w.cell? (ad.add (i*1))=some (.string x):=by
 obtain ⟨ad,c,e,_,hK,hc0⟩:=Kd.C_get h x i (by omega) (by omega)
 have hxi:xs.getD (i:Int).toNat x=x:=by simp [List.getD_eq_getElem?_getD,hx]
 rw [hxi] at hK
 have hc:∀j u,c[j]? =some u→w.cell? (ad.add (i*1+j))=some u:=hc0
 obtain rfl:=hK
 exact ⟨ad,e,hc 0 _ rfl⟩
theorem fl_at {w:World}{A:Option Addr}{n:Nat}{xs:List Fl}(h:Kd.C kFl w A n xs)(i:Nat)(h1:i<n)(x:Fl)(hx:xs[i]? =some x):∃ad,A=some ad∧w.cell? (ad.add (i*2))=some (.string x.1)∧w.cell? ⟨(ad.add (i*2)).block,(ad.add (i*2)).off+1,none⟩=some (.string x.2):=by
 obtain ⟨ad,c,e,_,hK,hc0⟩:=Kd.C_get h x i (by omega) (by omega)
 have hxi:xs.getD (i:Int).toNat x=x:=by simp [List.getD_eq_getElem?_getD,hx]
 rw [hxi] at hK
 have hc:∀j u,c[j]? =some u→w.cell? (ad.add (i*2+j))=some u:=hc0
 obtain ⟨_,_,rfl,rfl,rfl⟩:=hK
 exact ⟨ad,e,hc 0 _ rfl,by rw [←add_field _ _ 1 (by omega)];exact hc 1 _ rfl⟩
theorem gr_at {w:World}{A:Option Addr}{n:Nat}{xs:List Gr}(h:Kd.C kGr w A n xs)(i:Nat)(h1:i<n)(x:Gr)(hx:xs[i]? =some x):∃ad Al cl,A=some ad∧x.1.length≤cl∧Kd.C (Kd.int .i64) w Al x.1.length x.1∧w.cell? (ad.add (i*4))=some (.slice Al x.1.length cl)∧w.cell? ⟨(ad.add (i*4)).block,(ad.add (i*4)).off+1,none⟩=some (.int .i64 x.2.1)∧w.cell? ⟨(ad.add (i*4)).block,(ad.add (i*4)).off+2,none⟩=some (.int .i64 x.2.2.1)∧w.cell? ⟨(ad.add (i*4)).block,(ad.add (i*4)).off+3,none⟩=some (.int .i64 x.2.2.2):=by
 obtain ⟨ad,c,e,_,hK,hc0⟩:=Kd.C_get h x i (by omega) (by omega)
 have hxi:xs.getD (i:Int).toNat x=x:=by simp [List.getD_eq_getElem?_getD,hx]
 rw [hxi] at hK
 have hc:∀j u,c[j]? =some u→w.cell? (ad.add (i*4+j))=some u:=hc0
 obtain ⟨_,_,rfl,⟨Al,cl,rfl,hle,hC⟩,⟨_,_,rfl,rfl,⟨_,_,rfl,rfl,rfl⟩⟩⟩:=hK
 exact ⟨ad,Al,cl,e,hle,hC,hc 0 _ rfl,by rw [←add_field _ _ 1 (by omega)];exact hc 1 _ rfl,by rw [←add_field _ _ 2 (by omega)];exact hc 2 _ rfl,by rw [←add_field _ _ 3 (by omega)];exact hc 3 _ rfl⟩
theorem any_take_succ {α:Type}(zs:List α)(p:α→Bool)(i:Nat)(x:α)(hx:zs[i]? =some x):(zs.take (i+1)).any p=((zs.take i).any p||p x):=by
 rw [take_snoc zs i x hx,List.any_append];simp
theorem any_of_at {α:Type}(zs:List α)(p:α→Bool)(i:Nat)(x:α)(hx:zs[i]? =some x)(h:p x=true):zs.any p=true:=by
 obtain ⟨hi,he⟩:=List.getElem?_eq_some_iff.1 hx
 exact List.any_eq_true.2 ⟨x,by rw [←he];exact List.getElem_mem hi,h⟩
theorem str_idx (zs:List ByteArray)(p:ByteArray→Bool)(w:World)(A:Option Addr)(c:Nat)(HC:Kd.C Kd.string w A zs.length zs)(hl:zs.length≤1000000)
 (hcall:∀(i:Nat) (x:ByteArray) (w':World),zs[i]? =some x→Below w.heap.size w w'→Calls Tryz.prog 100 #[.string x] w' fun e w''=>e= .returned (.bool (p x))∧Below w'.heap.size w' w''):
 Calls Tryz.prog 145 #[.slice A zs.length c,.func (.func 100) #[] #[]] w fun e w'=>(∃r:Int,e= .returned (.int .i64 r)∧decide (r≥0)=zs.any p)∧Below w.heap.size w w':=by
 have HCA:=z0 HC
 obtain ⟨n,hn⟩:∃n,n=zs.length:=⟨_,rfl⟩
 rw [←hn] at hl ⊢
 have HN:=z0 hn
 have HCALL:=z0 hcall
 clear HC hn hcall
 go_enter Tryz.func145,Tryz.ntmps145
 go_wp2
 go_loopg [8] n (fun kq v8 w'=>∃(i:Nat),v8= .int .i64 i∧Aside0 (kq+i=n)∧Aside0 ((zs.take i).any p=false)∧Aside0 (Below w.heap.size w w'))
 case atStart=>exact ⟨0,rfl,⟨rfl⟩,⟨rfl⟩,⟨Below.refl _ _⟩⟩
 case round=>
  obtain ⟨i,rfl,hki,hno,hB⟩:=hrel
  have hki':=hki.out
  cases gk with
  |zero=>
   have hlt:decide ((i:Int)<(n:Int))=false:=decide_eq_false (by omega)
   go_wp2
   go_ret
   refine ⟨⟨_,rfl,?_⟩,hB.out⟩
   have:=hno.out
   rw [List.take_of_length_le (by rw [←HN.out];omega)] at this
   rw [this];rfl
  |succ g1=>
   have hlt:decide ((i:Int)<(n:Int))=true:=decide_eq_true (by omega)
   have hii:(0:Int)≤(i:Int):=by omega
   obtain ⟨x,hx⟩:∃x,zs[i]? =some x:=⟨_,List.getElem?_eq_getElem (by rw [←HN.out];omega)⟩
   obtain ⟨ad,hA,hx0⟩:=str_at HCA.out i (by rw [←HN.out];omega) x hx
   obtain rfl:=hA
   replace hx0:=(hB.out.cell (World.block_lt_of_cell? w _ hx0)).trans hx0
   rw [Nat.mul_one] at hx0
   have HX:=z0 hx
   clear hx
   obtain ⟨b,hb⟩:∃b,b=p x:=⟨_,rfl⟩
   have hC:=HCALL.out i x wr HX.out hB.out
   rw [←hb] at hC
   have HBP:=z0 hb
   clear hb
   cases b with
   |false=>
    go_wp2_with (go_at_call 100;go_loud (refine hC.mono ?_;rintro e w9 ⟨rfl,hb9⟩;have HB9:=z0 (below_step hB.out hb9);clear hb9))
    go_roundg g1
    case measure=>omega
    case rel=>exact ⟨i+1,by (try simp),⟨by omega⟩,⟨by rw [any_take_succ zs p i _ HX.out,hno.out,←HBP.out];rfl⟩,HB9⟩
   |true=>
    go_wp2_with (go_at_call 100;go_loud (refine hC.mono ?_;rintro e w9 ⟨rfl,hb9⟩;have HB9:=z0 (below_step hB.out hb9);clear hb9))
    go_ret
    exact ⟨⟨_,rfl,by rw [any_of_at zs p i _ HX.out HBP.out.symm];simp⟩,HB9.out⟩
theorem str_any (zs:List ByteArray)(p:ByteArray→Bool)(w:World)(A:Option Addr)(c:Nat)(HC:Kd.C Kd.string w A zs.length zs)(hl:zs.length≤1000000)
 (hcall:∀(i:Nat) (x:ByteArray) (w':World),zs[i]? =some x→Below w.heap.size w w'→Calls Tryz.prog 100 #[.string x] w' fun e w''=>e= .returned (.bool (p x))∧Below w'.heap.size w' w''):
 Calls Tryz.prog 98 #[.slice A zs.length c,.func (.func 100) #[] #[]] w fun e w'=>e= .returned (.bool (zs.any p))∧Below w.heap.size w w':=by
 have HI:=str_idx zs p w A c HC hl hcall
 obtain ⟨n,hn⟩:∃n,n=zs.length:=⟨_,rfl⟩
 rw [←hn] at HI ⊢
 clear HC hn hcall hl
 go_enter Tryz.func98,Tryz.ntmps98
 go_wp2_with (go_at_call 145;go_loud (refine HI.mono ?_;rintro e w9 ⟨⟨r,rfl,hr⟩,hb9⟩;have HB9:=z0 hb9;have HR:=z0 hr;clear hb9 hr))
 go_ret
 exact ⟨by rw [←HR.out];first|rfl|simp,HB9.out⟩
theorem fl_idx (zs:List Fl)(p:Fl→Bool)(w:World)(A:Option Addr)(c:Nat)(HC:Kd.C kFl w A zs.length zs)(hl:zs.length≤1000000)
 (hcall:∀(i:Nat) (x:Fl) (w':World),zs[i]? =some x→Below w.heap.size w w'→Calls Tryz.prog 58 #[.agg #[.string x.1,.string x.2]] w' fun e w''=>e= .returned (.bool (p x))∧Below w'.heap.size w' w''):
 Calls Tryz.prog 97 #[.slice A zs.length c,.func (.func 58) #[] #[]] w fun e w'=>(∃r:Int,e= .returned (.int .i64 r)∧decide (r≥0)=zs.any p)∧Below w.heap.size w w':=by
 have HCA:=z0 HC
 obtain ⟨n,hn⟩:∃n,n=zs.length:=⟨_,rfl⟩
 rw [←hn] at hl ⊢
 have HN:=z0 hn
 have HCALL:=z0 hcall
 clear HC hn hcall
 go_enter Tryz.func97,Tryz.ntmps97
 go_wp2
 go_loopg [8] n (fun kq v8 w'=>∃(i:Nat),v8= .int .i64 i∧Aside0 (kq+i=n)∧Aside0 ((zs.take i).any p=false)∧Aside0 (Below w.heap.size w w'))
 case atStart=>exact ⟨0,rfl,⟨rfl⟩,⟨rfl⟩,⟨Below.refl _ _⟩⟩
 case round=>
  obtain ⟨i,rfl,hki,hno,hB⟩:=hrel
  have hki':=hki.out
  cases gk with
  |zero=>
   have hlt:decide ((i:Int)<(n:Int))=false:=decide_eq_false (by omega)
   go_wp2
   go_ret
   refine ⟨⟨_,rfl,?_⟩,hB.out⟩
   have:=hno.out
   rw [List.take_of_length_le (by rw [←HN.out];omega)] at this
   rw [this];rfl
  |succ g1=>
   have hlt:decide ((i:Int)<(n:Int))=true:=decide_eq_true (by omega)
   have hii:(0:Int)≤(i:Int):=by omega
   obtain ⟨x,hx⟩:∃x,zs[i]? =some x:=⟨_,List.getElem?_eq_getElem (by rw [←HN.out];omega)⟩
   obtain ⟨ad,hA,hx0,hx1⟩:=fl_at HCA.out i (by rw [←HN.out];omega) x hx
   obtain rfl:=hA
   replace hx0:=(hB.out.cell (World.block_lt_of_cell? w _ hx0)).trans hx0
   replace hx1:=(hB.out.cell (World.block_lt_of_cell? w _ hx1)).trans hx1
   have HX:=z0 hx
   clear hx
   obtain ⟨b,hb⟩:∃b,b=p x:=⟨_,rfl⟩
   have hC:=HCALL.out i x wr HX.out hB.out
   rw [←hb] at hC
   have HBP:=z0 hb
   clear hb
   obtain ⟨x1,x2⟩:=x
   simp only at hx0 hx1 hC
   cases b with
   |false=>
    go_wp2_with (go_at_call 58;go_loud (refine hC.mono ?_;rintro e w9 ⟨rfl,hb9⟩;have HB9:=z0 (below_step hB.out hb9);clear hb9))
    go_roundg g1
    case measure=>omega
    case rel=>exact ⟨i+1,by (try simp),⟨by omega⟩,⟨by rw [any_take_succ zs p i _ HX.out,hno.out,←HBP.out];rfl⟩,HB9⟩
   |true=>
    go_wp2_with (go_at_call 58;go_loud (refine hC.mono ?_;rintro e w9 ⟨rfl,hb9⟩;have HB9:=z0 (below_step hB.out hb9);clear hb9))
    go_ret
    exact ⟨⟨_,rfl,by rw [any_of_at zs p i _ HX.out HBP.out.symm];simp⟩,HB9.out⟩
theorem fl_any (zs:List Fl)(p:Fl→Bool)(w:World)(A:Option Addr)(c:Nat)(HC:Kd.C kFl w A zs.length zs)(hl:zs.length≤1000000)
 (hcall:∀(i:Nat) (x:Fl) (w':World),zs[i]? =some x→Below w.heap.size w w'→Calls Tryz.prog 58 #[.agg #[.string x.1,.string x.2]] w' fun e w''=>e= .returned (.bool (p x))∧Below w'.heap.size w' w''):
 Calls Tryz.prog 57 #[.slice A zs.length c,.func (.func 58) #[] #[]] w fun e w'=>e= .returned (.bool (zs.any p))∧Below w.heap.size w w':=by
 have HI:=fl_idx zs p w A c HC hl hcall
 obtain ⟨n,hn⟩:∃n,n=zs.length:=⟨_,rfl⟩
 rw [←hn] at HI ⊢
 clear HC hn hcall hl
 go_enter Tryz.func57,Tryz.ntmps57
 go_wp2_with (go_at_call 97;go_loud (refine HI.mono ?_;rintro e w9 ⟨⟨r,rfl,hr⟩,hb9⟩;have HB9:=z0 hb9;have HR:=z0 hr;clear hb9 hr))
 go_ret
 exact ⟨by rw [←HR.out];first|rfl|simp,HB9.out⟩
theorem gr_idx (cp:Value)(zs:List Gr)(p:Gr→Bool)(w:World)(A:Option Addr)(c:Nat)(HC:Kd.C kGr w A zs.length zs)(hl:zs.length≤1000000)
 (hcall:∀(i:Nat) (x:Gr) (w':World) (Al:Option Addr) (cl:Nat),zs[i]? =some x→Below w.heap.size w w'→x.1.length≤cl→Kd.C (Kd.int .i64) w Al x.1.length x.1→Calls Tryz.prog 75 #[.agg #[.slice Al x.1.length cl,.int .i64 x.2.1,.int .i64 x.2.2.1,.int .i64 x.2.2.2],cp] w' fun e w''=>e= .returned (.bool (p x))∧Below w'.heap.size w' w''):
 Calls Tryz.prog 133 #[.slice A zs.length c,.func (.func 75) #[] #[cp]] w fun e w'=>(∃r:Int,e= .returned (.int .i64 r)∧decide (r≥0)=zs.any p)∧Below w.heap.size w w':=by
 have HCA:=z0 HC
 obtain ⟨n,hn⟩:∃n,n=zs.length:=⟨_,rfl⟩
 rw [←hn] at hl ⊢
 have HN:=z0 hn
 have HCALL:=z0 hcall
 clear HC hn hcall
 go_enter Tryz.func133,Tryz.ntmps133
 go_wp2
 go_loopg [8] n (fun kq v8 w'=>∃(i:Nat),v8= .int .i64 i∧Aside0 (kq+i=n)∧Aside0 ((zs.take i).any p=false)∧Aside0 (Below w.heap.size w w'))
 case atStart=>exact ⟨0,rfl,⟨rfl⟩,⟨rfl⟩,⟨Below.refl _ _⟩⟩
 case round=>
  obtain ⟨i,rfl,hki,hno,hB⟩:=hrel
  have hki':=hki.out
  cases gk with
  |zero=>
   have hlt:decide ((i:Int)<(n:Int))=false:=decide_eq_false (by omega)
   go_wp2
   go_ret
   refine ⟨⟨_,rfl,?_⟩,hB.out⟩
   have:=hno.out
   rw [List.take_of_length_le (by rw [←HN.out];omega)] at this
   rw [this];rfl
  |succ g1=>
   have hlt:decide ((i:Int)<(n:Int))=true:=decide_eq_true (by omega)
   have hii:(0:Int)≤(i:Int):=by omega
   obtain ⟨x,hx⟩:∃x,zs[i]? =some x:=⟨_,List.getElem?_eq_getElem (by rw [←HN.out];omega)⟩
   obtain ⟨ad,Al,cl,hA,hle,hCl,hx0,hx1,hx2,hx3⟩:=gr_at HCA.out i (by rw [←HN.out];omega) x hx
   obtain rfl:=hA
   replace hx0:=(hB.out.cell (World.block_lt_of_cell? w _ hx0)).trans hx0
   replace hx1:=(hB.out.cell (World.block_lt_of_cell? w _ hx1)).trans hx1
   replace hx2:=(hB.out.cell (World.block_lt_of_cell? w _ hx2)).trans hx2
   replace hx3:=(hB.out.cell (World.block_lt_of_cell? w _ hx3)).trans hx3
   have HX:=z0 hx
   clear hx
   obtain ⟨b,hb⟩:∃b,b=p x:=⟨_,rfl⟩
   have hC:=HCALL.out i x wr Al cl HX.out hB.out hle hCl
   rw [←hb] at hC
   have HBP:=z0 hb
   clear hb
   obtain ⟨x1,x2,x3,x4⟩:=x
   simp only at hx0 hx1 hx2 hx3 hC
   obtain ⟨ln,hln⟩:∃ln,ln=x1.length:=⟨_,rfl⟩
   rw [←hln] at hx0 hC
   clear hln hle hCl
   cases b with
   |false=>
    go_wp2_with (go_at_call 75;go_loud (refine hC.mono ?_;rintro e w9 ⟨rfl,hb9⟩;have HB9:=z0 (below_step hB.out hb9);clear hb9))
    go_roundg g1
    case measure=>omega
    case rel=>exact ⟨i+1,by (try simp),⟨by omega⟩,⟨by rw [any_take_succ zs p i _ HX.out,hno.out,←HBP.out];rfl⟩,HB9⟩
   |true=>
    go_wp2_with (go_at_call 75;go_loud (refine hC.mono ?_;rintro e w9 ⟨rfl,hb9⟩;have HB9:=z0 (below_step hB.out hb9);clear hb9))
    go_ret
    exact ⟨⟨_,rfl,by rw [any_of_at zs p i _ HX.out HBP.out.symm];simp⟩,HB9.out⟩
theorem gr_any (cp:Value)(zs:List Gr)(p:Gr→Bool)(w:World)(A:Option Addr)(c:Nat)(HC:Kd.C kGr w A zs.length zs)(hl:zs.length≤1000000)
 (hcall:∀(i:Nat) (x:Gr) (w':World) (Al:Option Addr) (cl:Nat),zs[i]? =some x→Below w.heap.size w w'→x.1.length≤cl→Kd.C (Kd.int .i64) w Al x.1.length x.1→Calls Tryz.prog 75 #[.agg #[.slice Al x.1.length cl,.int .i64 x.2.1,.int .i64 x.2.2.1,.int .i64 x.2.2.2],cp] w' fun e w''=>e= .returned (.bool (p x))∧Below w'.heap.size w' w''):
 Calls Tryz.prog 74 #[.slice A zs.length c,.func (.func 75) #[] #[cp]] w fun e w'=>e= .returned (.bool (zs.any p))∧Below w.heap.size w w':=by
 have HI:=gr_idx cp zs p w A c HC hl hcall
 obtain ⟨n,hn⟩:∃n,n=zs.length:=⟨_,rfl⟩
 rw [←hn] at HI ⊢
 clear HC hn hcall hl
 go_enter Tryz.func74,Tryz.ntmps74
 go_wp2_with (go_at_call 133;go_loud (refine HI.mono ?_;rintro e w9 ⟨⟨r,rfl,hr⟩,hb9⟩;have HB9:=z0 hb9;have HR:=z0 hr;clear hb9 hr))
 go_ret
 exact ⟨by rw [←HR.out];first|rfl|simp,HB9.out⟩
def dotB (x:ByteArray):Bool:=x.toList==([]:List UInt8)||(x.toList==([46]:List UInt8)||x.toList==([46,46]:List UInt8))
theorem dot_any (x:ByteArray)(w:World):Calls Tryz.prog 100 #[.string x] w fun e w'=>e= .returned (.bool (dotB x))∧Below w.heap.size w w':=by
 unfold dotB
 by_cases h1:x.toList=([]:List UInt8)
 · have c1:(x.toList==([]:List UInt8))=true:=beq_iff_eq.mpr h1
   rw [c1]
   clear h1
   go_enter Tryz.func100,Tryz.ntmps100
   go_wp2
   go_ret
   exact ⟨rfl,Below.refl _ _⟩
 · have c1:(x.toList==([]:List UInt8))=false:=beq_eq_false_iff_ne.mpr h1
   rw [c1]
   clear h1
   by_cases h2:x.toList=([46]:List UInt8)
   · have c2:(x.toList==([46]:List UInt8))=true:=beq_iff_eq.mpr h2
     rw [c2]
     clear h2
     go_enter Tryz.func100,Tryz.ntmps100
     go_wp2
     go_ret
     exact ⟨rfl,Below.refl _ _⟩
   · have c2:(x.toList==([46]:List UInt8))=false:=beq_eq_false_iff_ne.mpr h2
     rw [c2]
     clear h2
     go_enter Tryz.func100,Tryz.ntmps100
     go_wp2
     go_ret
     exact ⟨by simp,Below.refl _ _⟩
def partsB (s:ByteArray):List ByteArray:=Lib.splitB ⟨#[47]⟩ 0 (Lib.countB s ⟨#[47]⟩) s
def isNameB (s:ByteArray):Bool:= !((partsB s).any dotB)
theorem parts_len (s:ByteArray):(partsB s).length=Lib.countB s ⟨#[47]⟩+1:=Lib.splitB_all ⟨#[47]⟩ (by decide) 0 _ s rfl
theorem strs_C {w:World}{g:Nat}{zs:List ByteArray}{t:TypeId}(h:w.heap[g]? =some (.cells (zs.map Value.string).toArray t (0,0)))(hl:zs.length≤9223372036854775807):Kd.C Kd.string w (some ⟨g,0,none⟩) zs.length zs:=by
 refine ⟨rfl,hl,fun hn=>⟨_,rfl,fun j p hj=>⟨[.string p],rfl,rfl,fun i u hu=> ?_⟩⟩⟩
 cases i with
 |zero=>
  obtain rfl:Value.string p=u:=by simpa using hu
  have h1:=cell_of_row w g j _ _ _ h
  have e:((⟨g,0,none⟩:Addr).add (j*Kd.string.sz+0))=⟨g,j,none⟩:=by
   show (⟨g,0,none⟩:Addr).add (j*1+0)=_
   rw [Nat.mul_one,Nat.add_zero,add_plain]
  rw [e,h1]
  simp [hj]
 |succ i=>simp at hu
theorem isName_any (s:ByteArray)(w:World)(hG:Glob2 w)(hs:s.size≤900000):
 Calls Tryz.prog 59 #[.string s] w fun e w'=>e= .returned (.bool (isNameB s))∧Below w.heap.size w w':=by
 obtain ⟨m,hm⟩:=hG.1.1
 have H99:=Tryz.strings_Split s ⟨#[47]⟩ m w (by omega) hm (by decide)
 have hpl:(partsB s).length≤1000000:=by
  rw [parts_len]
  have:=Lib.countB_le ⟨#[47]⟩ (by decide) s.size s (Nat.le_refl _)
  omega
 rw [←parts_len] at H99
 have hP:isNameB s= !((partsB s).any dotB):=rfl
 rw [hP]
 change Calls Tryz.prog 99 _ w (fun e w'=>e= .returned (.slice (some ⟨w.heap.size,0,none⟩) (partsB s).length (partsB s).length)∧w'=w.alloc (.cells ((partsB s).map Value.string).toArray 9)) at H99
 generalize partsB s=zs at *
 have H98:=str_any zs dotB (w.alloc (.cells (zs.map Value.string).toArray 9)) (some ⟨w.heap.size,0,none⟩) zs.length (strs_C (blk_new _ _) (by omega)) hpl (fun i x w' _ _=>dot_any x w')
 obtain ⟨n,hn⟩:∃n,n=zs.length:=⟨_,rfl⟩
 rw [←hn] at H99 H98
 obtain ⟨W1,hW1⟩:∃W1,W1=w.alloc (.cells (zs.map Value.string).toArray 9):=⟨_,rfl⟩
 rw [←hW1] at H99 H98
 have HB1:Aside0 (Below w.heap.size w W1):=⟨by rw [hW1];exact below_alloc (Below.refl _ _) _⟩
 clear hn hW1 hpl hP hm hG
 go_enter Tryz.func59,Tryz.ntmps59
 go_wp2_with (first|(go_at_call 99;go_loud (refine H99.mono ?_;rintro e w7 ⟨rfl,rfl⟩))|(go_at_call 98;go_loud (refine H98.mono ?_;rintro e w9 ⟨rfl,hb9⟩;have HB9:=z0 (below_step HB1.out hb9);clear hb9)))
 go_ret
 exact ⟨rfl,HB9.out⟩
def inB (i:Int)(g:Gr):Bool:=decide (g.1.getD 1 0<i)&&decide (i<g.1.getD (g.1.length-1) 0)
def seenB (gs:List Gr)(i:Int):Bool:= !(gs.any (inB i))
theorem ints_at {w:World}{A:Option Addr}{xs:List Int}(h:Kd.C (Kd.int .i64) w A xs.length xs)(i:Nat)(h1:i<xs.length):∃ad,A=some ad∧w.cell? (ad.add i)=some (.int .i64 (xs.getD i 0)):=by
 obtain ⟨ad,c,e,_,hK,hc0⟩:=Kd.C_get h 0 i (by omega) (by omega)
 have hc:∀j u,c[j]? =some u→w.cell? (ad.add (i*1+j))=some u:=hc0
 obtain rfl:=hK
 refine ⟨ad,e,?_⟩
 have:=hc 0 _ rfl
 rwa [Nat.mul_one,Nat.add_zero] at this
theorem seen1_any (g:Gr)(i:Int)(CB:Nat)(w:World)(Al:Option Addr)(cl:Nat)(hle:g.1.length≤cl)(hC:Kd.C (Kd.int .i64) w Al g.1.length g.1)(h2:2≤g.1.length)(hl:g.1.length≤1000000)(hcell:w.cell? ⟨CB,0,none⟩=some (.int .i64 i)):
 Calls Tryz.prog 75 #[.agg #[.slice Al g.1.length cl,.int .i64 g.2.1,.int .i64 g.2.2.1,.int .i64 g.2.2.2],.pointer (some ⟨CB,0,none⟩)] w fun e w'=>e= .returned (.bool (inB i g))∧Below w.heap.size w w':=by
 obtain ⟨xs,g2,g3,g4⟩:=g
 obtain ⟨k,hk⟩:∃k,xs.length=k+1:=⟨xs.length-1,by simp only at h2;omega⟩
 simp only at hle hC h2 hl ⊢
 obtain ⟨ad,rfl,hx1⟩:=ints_at hC 1 (by omega)
 obtain ⟨ad',ha,hx2⟩:=ints_at hC k (by omega)
 obtain rfl:ad=ad':=by injection ha
 have hin:inB i (xs,g2,g3,g4)=(decide (xs.getD 1 0<i)&&decide (i<xs.getD k 0)):=by unfold inB;simp only [hk,Nat.add_sub_cancel]
 rw [hin]
 generalize xs.getD 1 0=a1 at *
 generalize xs.getD k 0=a2 at *
 rw [hk] at hle h2 hl ⊢
 rw [show ad.add 1=⟨ad.block,ad.off+1,none⟩ by simp [Addr.add]] at hx1
 clear hC hin ha hk
 have hn0:(0:Int)<(k:Int):=by omega
 have hw1:IntKind.i64.wrap (k:Int)=(k:Int):=IntWalk.i64_in _ (by omega)
 have hw2:wrap64 (k:Int)=(k:Int):=wr (by omega) (by omega)
 have hn4:(1:Int)<(k:Int)+1:=by omega
 have hn5:(k:Int)<(k:Int)+1:=by omega
 have hn1:(1:Int)<((k+1:Nat):Int):=by omega
 have hn2:(0:Int)≤(k:Int):=by omega
 have hn3:(k:Int)<((k+1:Nat):Int):=by omega
 by_cases hg:a1<i
 · have hd:decide (i>a1)=true:=decide_eq_true hg
   have hd':decide (a1<i)=true:=decide_eq_true hg
   go_enter Tryz.func75,Tryz.ntmps75
   go_wp2
   obtain ⟨W1,hW1⟩:∃W1,W1=w.alloc (Obj.cells #[Value.slice (some ad) (k+1) cl,Value.int IntKind.i64 g2,Value.int IntKind.i64 g3,Value.int IntKind.i64 g4] 134):=⟨_,rfl⟩
   rw [←hW1]
   have HB1:Aside0 (Below w.heap.size w W1):=⟨by rw [hW1];exact below_alloc (Below.refl _ _) _⟩
   have hb0:W1.cell? ⟨w.heap.size,0,none⟩=some (.slice (some ad) (k+1) cl):=by have:=cell_of_row W1 w.heap.size 0 _ _ _ (by rw [hW1];exact blk_new _ _);simpa using this
   replace hcell:=(HB1.out.cell (World.block_lt_of_cell? w _ hcell)).trans hcell
   replace hx1:=(HB1.out.cell (World.block_lt_of_cell? w _ hx1)).trans hx1
   replace hx2:=(HB1.out.cell (World.block_lt_of_cell? w _ hx2)).trans hx2
   clear hW1
   go_quiet (fail)
   go_wp2
   go_ret
   exact ⟨by rw [hd'];rfl,(by have:=HB1.out;exact pw_below_drewN this _)⟩
 · have hd:decide (i>a1)=false:=decide_eq_false hg
   have hd':decide (a1<i)=false:=decide_eq_false hg
   go_enter Tryz.func75,Tryz.ntmps75
   go_wp2
   obtain ⟨W1,hW1⟩:∃W1,W1=w.alloc (Obj.cells #[Value.slice (some ad) (k+1) cl,Value.int IntKind.i64 g2,Value.int IntKind.i64 g3,Value.int IntKind.i64 g4] 134):=⟨_,rfl⟩
   rw [←hW1]
   have HB1:Aside0 (Below w.heap.size w W1):=⟨by rw [hW1];exact below_alloc (Below.refl _ _) _⟩
   have hb0:W1.cell? ⟨w.heap.size,0,none⟩=some (.slice (some ad) (k+1) cl):=by have:=cell_of_row W1 w.heap.size 0 _ _ _ (by rw [hW1];exact blk_new _ _);simpa using this
   replace hcell:=(HB1.out.cell (World.block_lt_of_cell? w _ hcell)).trans hcell
   replace hx1:=(HB1.out.cell (World.block_lt_of_cell? w _ hx1)).trans hx1
   replace hx2:=(HB1.out.cell (World.block_lt_of_cell? w _ hx2)).trans hx2
   clear hW1
   go_quiet (fail)
   go_wp2
   go_ret
   exact ⟨by rw [hd'];rfl,(by have:=HB1.out;exact pw_below_drewN this _)⟩
theorem seen_any (gs:List Gr)(i:Int)(w:World)(A:Option Addr)(c:Nat)(HC:Kd.C kGr w A gs.length gs)(hl:gs.length≤1000000)(h2:∀g∈gs,2≤g.1.length∧g.1.length≤1000000):
 Calls Tryz.prog 43 #[.slice A gs.length c,.int .i64 i] w fun e w'=>e= .returned (.bool (seenB gs i))∧Below w.heap.size w w':=by
 obtain ⟨W1,hW1⟩:∃W1,W1=w.alloc (.cells #[Value.int .i64 i] 3):=⟨_,rfl⟩
 have HB1:Below w.heap.size w W1:=by rw [hW1];exact below_alloc (Below.refl _ _) _
 have hc1:W1.cell? ⟨w.heap.size,0,none⟩=some (.int .i64 i):=by have:=cell_of_row W1 w.heap.size 0 _ _ _ (by rw [hW1];exact blk_new _ _);simpa using this
 have H74:=gr_any (.pointer (some ⟨w.heap.size,0,none⟩)) gs (inB i) W1 A c (Kd.C_below HC HB1) hl (fun j x w' Al cl hx hb hle hC=>seen1_any x i w.heap.size w' Al cl hle (Kd.C_below hC hb) (h2 x (List.mem_of_getElem? hx)).1 (h2 x (List.mem_of_getElem? hx)).2 ((hb.cell (World.block_lt_of_cell? W1 _ hc1)).trans hc1))
 obtain ⟨n,hn⟩:∃n,n=gs.length:=⟨_,rfl⟩
 rw [←hn] at H74 ⊢
 have hS:seenB gs i= !(gs.any (inB i)):=rfl
 rw [hS]
 have HBB:=z0 HB1
 have HW:=z0 hW1
 clear hn HB1 hc1 hS HC hl h2 hW1
 rw [HW.out] at H74 HBB
 clear HW
 go_enter Tryz.func43,Tryz.ntmps43
 go_wp2_with (go_at_call 74;go_loud (refine H74.mono ?_;rintro e w9 ⟨rfl,hb9⟩;have HB9:=z0 (below_step HBB.out hb9);clear hb9))
 go_ret
 exact ⟨rfl,HB9.out⟩
def winGo (i:Int):Int→List Int→Int
 |_,[]=> -1
 |_,[_]=> -1
 |c,x::y::r=>if x<i∧i<y then c else winGo i (c+1) (y::r)
theorem within_l0 (ls:List Int)(i b c d:Int)(hl:ls.length≤1000000):∀(e k j:Nat),j≤ls.length→ls.length-j≤e→e<k→ORef.smockingref03_within.l0 k i (j:Int) ls b c d=some (winGo i j (ls.drop j))
 |e,0,j,_,_,h=>by omega
 |e,k+1,j,h1,h2,hk=>by
  have hw:wrap64 ((j:Int)+1)=((j+1:Nat):Int):=(OScan.wr (by omega) (by omega)).trans (by omega)
  rw [ORef.smockingref03_within.l0,hw]
  by_cases hj:j+1<ls.length
  · have hd0:ls.drop j=ls[j]::ls[j+1]::ls.drop (j+2):=by
     rw [List.drop_eq_getElem_cons (by omega),List.drop_eq_getElem_cons hj]
    have hd1:ls.drop (j+1)=ls[j+1]::ls.drop (j+2):=by rw [List.drop_eq_getElem_cons hj]
    have ih:=within_l0 ls i b c d hl (e-1) k (j+1) (by omega) (by omega) (by omega)
    have r0:rd ls (j:Int)=ls[j]:=by simp [rd,List.getD_eq_getElem?_getD,show j<ls.length by omega]
    have r1:rd ls ((j+1:Nat):Int)=ls[j+1]:=by
     show ls.getD ((j+1:Nat):Int).toNat 0=_
     rw [Int.toNat_natCast];simp [List.getD_eq_getElem?_getD,hj]
    have hcast:((j:Int)+1)=((j+1:Nat):Int):=by omega
    rw [if_pos (by omega),if_pos (by omega),if_pos (by omega),r0,hd0,winGo,ih,hd1,hcast]
    by_cases q1:i>ls[j]
    · rw [if_pos q1,if_pos (by omega),r1]
      by_cases q2:i<ls[j+1]
      · rw [if_pos q2,if_pos ⟨q1,q2⟩]
      · rw [if_neg q2,if_neg (fun h=>q2 h.2)]
    · rw [if_neg q1,if_neg (fun h=>q1 h.1)]
  · rw [if_neg (by omega)]
    rcases Nat.lt_or_ge j ls.length with h|h
    · rw [List.drop_eq_getElem_cons h,List.drop_eq_nil_of_le (by omega)]
      rfl
    · rw [List.drop_eq_nil_of_le h]
      rfl
theorem within_f (ls:List Int)(b c d i:Int)(hl:ls.length≤1000000):ORef.smockingref03_within.f (ls.length+1) ls b c d i=some (winGo i 0 ls):=by
 have:=within_l0 ls i b c d hl ls.length (ls.length+1) 0 (by omega) (by omega) (by omega)
 unfold ORef.smockingref03_within.f
 exact this
theorem winGo_le (i:Int):∀(ls:List Int) (c:Int),0≤c→winGo i c ls= -1∨c≤winGo i c ls
 |[],c,_=> .inl rfl
 |[_],c,_=> .inl rfl
 |x::y::r,c,hc=>by
  rw [winGo]
  split
  · exact .inr (Int.le_refl _)
  · rcases winGo_le i (y::r) (c+1) (by omega) with h|h
    · exact .inl h
    · exact .inr (by omega)
theorem winGo_none (i:Int):∀(ls:List Int) (c:Int),0≤c→ls.Pairwise (· < ·)→(∀a∈ls,a≠i)→(winGo i c ls= -1↔∀x∈ls.head?,¬(x<i∧i<ls.getLastD 0))
 |[],c,_,_,_=>by simp [winGo]
 |[x],c,_,_,_=>by simp [winGo];omega
 |x::y::r,c,hc,hp,hi=>by
  rw [winGo]
  have hp':=List.pairwise_cons.1 hp
  have ih:=winGo_none i (y::r) (c+1) (by omega) hp'.2 (fun a ha=>hi a (List.mem_cons_of_mem _ ha))
  have hxy:x<y:=hp'.1 y List.mem_cons_self
  have hly:y≤(y::r).getLastD 0:=by
   cases r with
   |nil=>exact Int.le_refl _
   |cons z r=>
    have hl:=(List.pairwise_cons.1 hp'.2).1 ((z::r).getLast (by simp)) (List.getLast_mem _)
    have:(y::z::r).getLastD 0=(z::r).getLast (by simp):=by simp [List.getLastD_eq_getLast?,List.getLast?_eq_some_getLast]
    rw [this];omega
  have hlast:(x::y::r).getLastD 0=(y::r).getLastD 0:=by simp [List.getLastD_eq_getLast?]
  have hyi:y≠i:=hi y (by simp)
  rw [hlast]
  split
  · rename_i h
    constructor
    · intro e;omega
    · intro e
      have:=e x (by simp)
      omega
  · rename_i h
    rw [ih]
    simp only [List.head?_cons,Option.mem_def,Option.some.injEq,forall_eq']
    constructor
    · intro e e2
      apply e
      omega
    · intro e e2
      apply e
      omega
theorem winGo_first (i:Int)(g:Gr)(h2:2≤g.1.length)(hp:g.1.Pairwise (· < ·))(hi:∀a∈g.1,a≠i):(winGo i 0 g.1= -1∨winGo i 0 g.1=0)↔inB i g=false:=by
 obtain ⟨ls,b⟩:=g
 simp only at h2 hp hi
 match ls,h2 with
 |x::y::r,_=>
  have hp':=List.pairwise_cons.1 hp
  have h1:=winGo_none i (y::r) 1 (by omega) hp'.2 (fun a ha=>hi a (List.mem_cons_of_mem _ ha))
  have hle:=winGo_le i (y::r) 1 (by omega)
  have hxy:x<y:=hp'.1 y List.mem_cons_self
  have hl:(x::y::r).getD ((x::y::r).length-1) 0=(y::r).getLastD 0:=by
   simp [List.getLastD_eq_getLast?,List.getLast?_eq_getElem?]
  simp only [winGo,inB,hl,List.getD_cons_succ,List.getD_cons_zero]
  simp only [List.head?_cons,Option.mem_def,Option.some.injEq,forall_eq'] at h1
  rw [Bool.and_eq_false_iff,decide_eq_false_iff_not,decide_eq_false_iff_not]
  have hly:y≤(y::r).getLastD 0:=by
   cases r with
   |nil=>exact Int.le_refl _
   |cons z r=>
    have hl:=(List.pairwise_cons.1 hp'.2).1 ((z::r).getLast (by simp)) (List.getLast_mem _)
    have:(y::z::r).getLastD 0=(z::r).getLast (by simp):=by simp [List.getLastD_eq_getLast?,List.getLast?_eq_some_getLast]
    rw [this];omega
  split
  · rename_i h
    simp;omega
  · rename_i h
    rw [show (0:Int)+1=1 from rfl]
    constructor
    · rintro (h3|h3)
      · have:=h1.1 h3
        omega
      · rcases hle with h4|h4<;>omega
    · intro h3
      exact .inl (h1.2 (by omega))
def ofGo (i:Int):Nat→List (List Int)→List (Int × Int)
 |_,[]=>[]
 |k,ls::r=>if 0≤winGo i 0 ls then ((k:Int),winGo i 0 ls)::ofGo i (k+1) r else ofGo i (k+1) r
theorem ofGo_all (i:Int):∀(k:Nat) (gs:List Gr),(∀g∈gs,2≤g.1.length∧g.1.Pairwise (· < ·)∧∀a∈g.1,a≠i)→((ofGo i k (gs.map (·.1))).all (fun p=>p.2==0)=true↔seenB gs i=true)
 |k,[],_=>by simp [ofGo,seenB]
 |k,g::gs,h=>by
  obtain ⟨h1,h2,h3⟩:=h g List.mem_cons_self
  have ih:=ofGo_all i (k+1) gs (fun g' hg'=>h g' (List.mem_cons_of_mem _ hg'))
  have hf:=winGo_first i g h1 h2 h3
  have hle:=winGo_le i g.1 0 (by omega)
  have hs:seenB (g::gs) i=(!inB i g&&seenB gs i):=by simp [seenB]
  rw [hs,List.map_cons,ofGo]
  split
  · rename_i h0
    rw [List.all_cons,Bool.and_eq_true,Bool.and_eq_true,ih]
    simp only [beq_iff_eq,Bool.not_eq_true']
    rw [←hf]
    constructor
    · rintro ⟨h4,h5⟩;exact ⟨.inr h4,h5⟩
    · rintro ⟨h4,h5⟩;exact ⟨by omega,h5⟩
  · rename_i h0
    rw [Bool.and_eq_true,ih]
    simp only [Bool.not_eq_true']
    rw [←hf]
    exact ⟨fun h=>⟨by omega,h⟩,fun h=>h.2⟩
def LInv (ks:List ByteArray)(j:Nat)(gs:List Gr):Prop:=∀g∈gs,g.1.Pairwise (· < ·)∧∀a∈g.1,∃(e:Nat) (r:ByteArray),a=e∧e<j∧ks[e]? =some r∧(opensB r=true∨r.toList=elifL∨r.toList=elseL∨r.toList=endifL)
theorem LInv.set {ks:List ByteArray}{j:Nat}{gs:List Gr}{n:Nat}{y:Int × Int × Int}{r:ByteArray}(h:LInv ks j gs)(hr:ks[j]? =some r)(hk:opensB r=true∨r.toList=elifL∨r.toList=elseL∨r.toList=endifL):
 LInv ks (j+1) (gs.set n ((grAt gs n).1++[(j:Int)],y)):=by
 intro g hg
 have old:∀g∈gs,g.1.Pairwise (· < ·)∧∀a∈g.1,∃(e:Nat) (r:ByteArray),a=e∧e<j+1∧ks[e]? =some r∧(opensB r=true∨r.toList=elifL∨r.toList=elseL∨r.toList=endifL):=fun g hg=>⟨(h g hg).1,fun a ha=>by
  obtain ⟨e,r,h1,h2,h3⟩:=(h g hg).2 a ha
  exact ⟨e,r,h1,by omega,h3⟩⟩
 rcases List.mem_or_eq_of_mem_set hg with hg|rfl
 · exact old g hg
 · rcases Nat.lt_or_ge n gs.length with hn|hn
   · have hm:grAt gs n∈gs:=by
      have e:grAt gs n=gs[n]:=by simp [grAt,hn]
      rw [e];exact List.getElem_mem hn
     refine ⟨?_,fun a ha=> ?_⟩
     · rw [List.pairwise_append]
       refine ⟨(h _ hm).1,List.pairwise_singleton _ _,fun a ha b hb=> ?_⟩
       obtain ⟨e,_,h1,h2,_⟩:=(h _ hm).2 a ha
       rw [List.mem_singleton.1 hb];omega
     · rcases List.mem_append.1 ha with ha|ha
       · exact (old _ hm).2 a ha
       · exact ⟨j,r,List.mem_singleton.1 ha,by omega,hr,hk⟩
   · rw [List.set_eq_of_length_le hn] at hg
     exact old _ hg
theorem LInv.step {ks:List ByteArray}{j:Nat}{gs:List Gr}{st:List Ope}{r:ByteArray}{q:List Gr × List Ope}(h:LInv ks j gs)(hr:ks[j]? =some r)(hs:stepF r j gs st=some q):LInv ks (j+1) q.1:=by
 have mono:LInv ks (j+1) gs:=fun g hg=>⟨(h g hg).1,fun a ha=>by
  obtain ⟨e,r,h1,h2,h3⟩:=(h g hg).2 a ha
  exact ⟨e,r,h1,by omega,h3⟩⟩
 unfold stepF at hs
 split at hs
 · rename_i ho
   obtain rfl:=Option.some.inj hs
   intro g hg
   rcases List.mem_append.1 (show g∈gs++_ from hg) with hg|hg
   · exact mono g hg
   · rw [List.mem_singleton.1 hg]
     exact ⟨List.pairwise_singleton _ _,fun a ha=>⟨j,r,List.mem_singleton.1 ha,by omega,hr,.inl ho⟩⟩
 · split at hs
   · obtain rfl:=Option.some.inj hs
     exact mono
   · rename_i hno hk
     have hk':opensB r=true∨r.toList=elifL∨r.toList=elseL∨r.toList=endifL:=by
      by_cases h1:r.toList=elifL
      · exact .inr (.inl h1)
      · by_cases h2:r.toList=elseL
        · exact .inr (.inr (.inl h2))
        · by_cases h3:r.toList=endifL
          · exact .inr (.inr (.inr h3))
          · exact absurd ⟨h1,h2,h3⟩ hk
     split at hs
     · cases hs
     · split at hs
       · cases hs
       · split at hs
         · obtain rfl:=Option.some.inj hs
           exact h.set hr hk'
         · obtain rfl:=Option.some.inj hs
           exact h.set hr hk'
theorem lines_go (ks:List ByteArray):∀(d j:Nat) (gs:List Gr) (st:List Ope) (q:List Gr × List Ope),ks.length≤j+d→j≤ks.length→LInv ks j gs→grpGo (ks.drop j) j gs st= .inl q→LInv ks ks.length q.1
 |d,j,gs,st,q,h1,h2,hI,hg=>by
  rcases Nat.lt_or_ge j ks.length with hj|hj
  · cases d with
    |zero=>omega
    |succ d=>
     rw [List.drop_eq_getElem_cons hj,grpGo] at hg
     cases hs:stepF ks[j] j gs st with
     |none=>rw [hs] at hg;cases hg
     |some r'=>
      rw [hs] at hg
      exact lines_go ks d (j+1) r'.1 r'.2 q (by omega) hj (hI.step (List.getElem?_eq_getElem hj) hs) hg
  · rw [List.drop_eq_nil_of_le hj,grpGo] at hg
    obtain rfl:=Sum.inl.inj hg
    obtain rfl:j=ks.length:=by omega
    exact hI
theorem groups_lines (ks:List ByteArray):LInv ks ks.length (groupsR ks).1:=by
 unfold groupsR
 split
 · exact fun g hg=>by cases hg
 · cases hgo:grpGo ks 0 [] [] with
   |inr i=>exact fun g hg=>by cases hg
   |inl r=>
    obtain ⟨gs,st⟩:=r
    cases st with
    |cons x st=>exact fun g hg=>by cases hg
    |nil=>exact lines_go ks ks.length 0 [] [] (gs,[]) (by omega) (by omega) (fun g hg=>by cases hg) hgo
theorem of_seen (ks:List ByteArray)(he:(groupsR ks).2.1=0)(i:Nat)(r:ByteArray)(hr:ks[i]? =some r)(hn:opensB r=false∧r.toList≠elifL∧r.toList≠elseL∧r.toList≠endifL):
 (ofGo i 0 ((groupsR ks).1.map (·.1))).all (fun p=>p.2==0)=seenB (groupsR ks).1 i:=by
 rw [Bool.eq_iff_iff]
 refine ofGo_all i 0 _ (fun g hg=>⟨groups_two ks he g hg,(groups_lines ks g hg).1,fun a ha e=> ?_⟩)
 obtain ⟨e',r',h1,h2,h3,h4⟩:=(groups_lines ks g hg).2 a ha
 obtain rfl:e'=i:=by omega
 rw [hr] at h3
 obtain rfl:=Option.some.inj h3
 rcases h4 with h|h|h|h
 · rw [hn.1] at h;cases h
 · exact hn.2.1 h
 · exact hn.2.2.1 h
 · exact hn.2.2.2 h
abbrev kIP:Kd (Int × Int):=Kd.pair (Kd.int .i64) (Kd.int .i64)
theorem kIP_M (w:World)(base:Nat)(ok:Nat→Prop)(a b:Int):kIP.M w base ok (a,b) [.int .i64 a,.int .i64 b]:=⟨[.int .i64 a],[.int .i64 b],rfl,rfl,rfl⟩
theorem info110:(Tryz.prog.info? 110).map (fun i=>(i.zero,i.size,i.bytes))=some (some (.agg #[(.int .i64 0),(.int .i64 0)]),2,16):=by kernel_rfl
theorem ofGo_snoc (i:Int)(x:List Int):∀(k:Nat) (l:List (List Int)),ofGo i k (l++[x])=ofGo i k l++(if 0≤winGo i 0 x then [(((k+l.length:Nat):Int),winGo i 0 x)] else [])
 |k,[]=>by simp [ofGo]
 |k,y::l=>by
  have ih:=ofGo_snoc i x (k+1) l
  rw [List.cons_append,ofGo,ofGo,ih,List.length_cons,show k+1+l.length=k+(l.length+1) by omega]
  split<;>simp
theorem ofGo_len (i:Int):∀(k:Nat) (l:List (List Int)),(ofGo i k l).length≤l.length
 |k,[]=>Nat.le_refl _
 |k,y::l=>by
  have ih:=ofGo_len i (k+1) l
  rw [ofGo]
  split
  · rw [List.length_cons,List.length_cons];omega
  · rw [List.length_cons];omega
theorem below_low {b L:Nat}{w w5 w6:World}(h:Below b w w5)(h6:Below L w5 w6)(hb:b≤L):Below b w w6:=h.trans ⟨h6.os,h6.tape,h6.output,h6.size,fun k hk=>h6.block k (by omega)⟩
theorem rOf_any (ys:List Tk)(ks:List ByteArray)(w:World)(A:Option Addr)(c:Nat)(hC:Kd.C kTk w A ys.length ys)(hc:ys.length≤c)(hl:ys.length≤900000)(hkl:ks.length=ys.length)
 (hK:∀(i:Nat) (t:Tk),ys[i]? =some t→∃r k,ks[i]? =some r∧OKin.smockingref03_Kind.f k t.1 t.2.1 t.2.2.1 t.2.2.2=some r) (he:(groupsR ks).2.1=0) (i:Nat) (hi:i<ys.length):
 Calls Tryz.prog 50 #[.slice A ys.length c,.int .i64 (i:Int)] w fun e w'=>∃v,e= .returned (.tuple #[v,.int .i64 0])∧Kd.R kIP 110 w' w.heap.size (fun _=>True) v (ofGo i 0 ((groupsR ks).1.map (·.1)))∧Below w.heap.size w w':=by
 have H47:=rGroups_any ys ks w A c hC hc hl hkl hK
 rw [he] at H47
 have hgi:=groups_inv ks
 obtain ⟨n,hn⟩:∃n,n=ys.length:=⟨_,rfl⟩
 rw [←hn] at hc hl hi hkl H47 ⊢
 have HG1:Aside0 ((groupsR ks).1.length≤n∧∀g∈(groupsR ks).1,g.1.length≤n):=⟨by rw [hkl] at hgi;exact hgi⟩
 clear hC hK hkl hgi hn he
 obtain ⟨gl,hgl⟩:∃gl,gl=(groupsR ks).1.map (·.1):=⟨_,rfl⟩
 have HG2:Aside0 (gl.length≤n∧∀l∈gl,l.length≤n):=⟨by
  rw [hgl,List.length_map]
  exact ⟨HG1.out.1,fun l hl=>by
   obtain ⟨g,hg,rfl⟩:=List.mem_map.1 hl
   exact HG1.out.2 g hg⟩⟩
 rw [←hgl] at H47 ⊢
 clear hgl HG1
 have hi0:(0:Int)≤(i:Int):=by omega
 have hi1:(i:Int)<(n:Int):=by omega
 have hib:decide ((i:Int)<0)=false:=decide_eq_false (by omega)
 have hic:decide (n≤i)=false:=decide_eq_false (by omega)
 have HNL:=z0 hl
 clear hl
 go_enter Tryz.func50,Tryz.ntmps50
 go_wp2_with (go_at_call 47;go_loud (refine H47.mono ?_;rintro e w3 ⟨v3,x3,og,rfl,hog,hR,hb⟩;obtain ⟨A3,c3,rfl⟩:=Kd.R_slice hR;obtain ⟨G,hG⟩:∃G,G=og.length:=⟨_,rfl⟩;rw [←hG];have HR:=z0 hR;have HB:=z0 hb;have HG:=z0 (And.intro hG hog);clear hR hb hog hG))
 clear H47
 try simp only [hic]
 obtain ⟨L1,hL1⟩:∃L1,L1=w3.heap.size:=⟨_,rfl⟩
 have HR3:Aside0 (Kd.R kGr 146 w3 w.heap.size (fun k=>k<L1) (.slice A3 G c3) og):=⟨by rw [hL1];have h:=Kd.R_mono (Kd.R_bound HR.out) (fun k hk=>hk.2.2.1);rwa [←HG.out.1] at h⟩
 have HL:Aside0 (L1≤w3.heap.size):=⟨by omega⟩
 have HL0:Aside0 (w.heap.size≤L1):=⟨by rw [hL1];exact HB.out.size⟩
 clear HR hL1
 go_loopg [9,10,11] G (fun kq v9 v10 v11 w'=>∃(j:Nat),v10= .int .i64 j∧Aside0 (kq+j=G)∧Aside0 (Kd.R kIP 110 w' L1 (fun _=>True) v9 (ofGo i 0 (gl.take j)))∧Aside0 (Kd.R kGr 146 w' w.heap.size (fun k=>k<L1) (.slice A3 G c3) og)∧Aside0 (Below w.heap.size w w')∧Aside0 (L1≤w'.heap.size))
 case atStart=>exact ⟨0,rfl,⟨rfl⟩,⟨Kd.R_nil _ _ _ _ _⟩,HR3,HB,HL⟩
 case round=>
  obtain ⟨j,rfl,hkj,hO,hGR,hBj,hLj⟩:=hrel
  have hkj':=hkj.out
  cases gk with
  |zero=>
   obtain rfl:j=G:=by omega
   have hlt:decide ((j:Int)<(j:Int))=false:=decide_eq_false (by omega)
   go_wp2_with (fail)
   go_ret2
   have ht:gl.take j=gl:=List.take_of_length_le (by rw [HG.out.1,←List.length_map (f:=fun x:Gr=>x.1),HG.out.2];exact Nat.le_refl _)
   have h:=hO.out
   rw [ht] at h
   exact ⟨_,rfl,Kd.R_lower h HL0.out,hBj.out⟩
  |succ g1=>
   have hlt:decide ((j:Int)<(G:Int))=true:=decide_eq_true (by omega)
   have hjG:j<G:=by omega
   have hjj:(0:Int)≤(j:Int):=by omega
   obtain ⟨x,hx⟩:∃x,og[j]? =some x:=⟨_,List.getElem?_eq_getElem (by rw [←HG.out.1];exact hjG)⟩
   have hCg:Kd.C kGr wr A3 og.length og:=(Kd.R_reads' hGR.out).2.2
   obtain ⟨ad,Al,cl,hA,hlc,hCl,hx0,hx1,hx2,hx3⟩:=gr_at hCg j (by rw [←HG.out.1];exact hjG) x hx
   obtain rfl:=hA
   have hgx:gl[j]? =some x.1:=by rw [←HG.out.2,List.getElem?_map,hx];rfl
   have HTK:Aside0 (gl.take (j+1)=gl.take j++[x.1]∧(gl.take j).length=j):=⟨take_snoc gl j x.1 hgx,by rw [List.length_take];have:=(List.getElem?_eq_some_iff.1 hgx).1;omega⟩
   have hll:x.1.length≤900000:=by have h1:=HG2.out.2 x.1 (List.mem_of_getElem? hgx);have:=HNL.out;omega
   have hG9:G≤900000:=by have h1:=HG2.out.1;have h2:=HNL.out;have h3:og.length=gl.length:=by rw [←HG.out.2,List.length_map]
                         have h4:=HG.out.1;omega
   have hlen:(ofGo i 0 (gl.take j)).length≤j:=by have:=ofGo_len i 0 (gl.take j);rw [HTK.out.2] at this;exact this
   have HLEN:=z0 hlen
   clear hCg hx hgx hlen
   obtain ⟨ls,b2,b3,b4⟩:=x
   simp only at hx0 hx1 hx2 hx3 hlc hCl hll HTK
   have H85:=fun (W:World) (hr:Kd.C (Kd.int .i64) W Al ls.length ls)=>ORef.smockingref03_within.calls (ls.length+1) Al cl ls b2 b3 b4 (i:Int) _ W hr hlc (within_f ls b2 b3 b4 i (by omega))
   have HCL:=z0 hCl
   obtain ⟨r,hr⟩:∃r,r=winGo i 0 ls:=⟨_,rfl⟩
   rw [←hr] at H85
   have HSN:Aside0 (ofGo i 0 (gl.take (j+1))=ofGo i 0 (gl.take j)++(if 0≤r then [((j:Int),r)] else [])):=⟨by rw [HTK.out.1,ofGo_snoc,←hr,HTK.out.2,Nat.zero_add]⟩
   have HH85:=z0 H85
   clear hr hCl H85 HTK
   by_cases h0:0≤r
   · have hd:decide (r≥0)=true:=decide_eq_true h0
     have HSN':Aside0 (ofGo i 0 (gl.take (j+1))=ofGo i 0 (gl.take j)++[((j:Int),r)]):=⟨by rw [HSN.out,if_pos h0]⟩
     go_wp2_with (first|(go_at_call 85;go_loud (refine (HH85.out _ HCL.out).mono ?_;rintro e w5 ⟨rfl,hb5⟩;have HO5:=z0 (Kd.R_below hO.out hb5);have HG5:=z0 (Kd.R_below hGR.out hb5);have HB5:=z0 (below_step hBj.out hb5);have HL5:=z0 (Nat.le_trans hLj.out hb5.size);clear hb5))|(at_builtin;go_loud (refine Kd.R_append kIP (w0:=w5) L1 rfl (.tmp 43) (.tmp 47) 107 110 (.agg #[(.int .i64 0),(.int .i64 0)]) 16 rfl Tryz.underlying107 info110 rfl (by decide) (by omega) u9 (ofGo i 0 (gl.take j)) ((j:Int),r) [.int .i64 (j:Int),.int .i64 r] (fun _=>True) (fun _=>False) rfl rfl (kIP_M _ _ _ _ _) (fun _ hk=>hk.elim) (fun _ _=>trivial) HO5.out (Below.refl _ _) HL5.out ?aL ?_;(case aL=>have:=HLEN.out;omega);intro v1 w6 ho hb hg hat;have HO6:=z0 ho;have HB6:=z0 (below_low HB5.out hb HL0.out);have HG6:=z0 (Kd.R_grown HG5.out hg (fun k hk e=>by have:=Kd.R_base HO5.out k e.symm;omega));have HL6:=z0 (Nat.le_trans HL5.out hg.size);clear ho hb hg hat)))
     go_roundg g1
     case measure=>omega
     case rel=>exact ⟨j+1,(by first|rfl|simp),⟨by omega⟩,⟨by rw [HSN'.out];exact HO6.out⟩,HG6,HB6,HL6⟩
   · have hd:decide (r≥0)=false:=decide_eq_false h0
     have HSN':Aside0 (ofGo i 0 (gl.take (j+1))=ofGo i 0 (gl.take j)):=⟨by rw [HSN.out,if_neg h0,List.append_nil]⟩
     go_wp2_with (first|(go_at_call 85;go_loud (refine (HH85.out _ HCL.out).mono ?_;rintro e w5 ⟨rfl,hb5⟩;have HO5:=z0 (Kd.R_below hO.out hb5);have HG5:=z0 (Kd.R_below hGR.out hb5);have HB5:=z0 (below_step hBj.out hb5);have HL5:=z0 (Nat.le_trans hLj.out hb5.size);clear hb5)))
     go_roundg g1
     case measure=>omega
     case rel=>exact ⟨j+1,(by first|rfl|simp),⟨by omega⟩,⟨by rw [HSN'.out];exact HO5.out⟩,HG5,HB5,HL5⟩
end Go.Proofs.YtolaiebjmhieiaaGreatDoor.OScan
end
section
namespace Go.Proofs
open Go.Shelf
def Tryz.laysI22_ren:Go.Shelf.Ren:=⟨fun|22=>77|29=>134|30=>135|36=>171|17=>193|n=>n,fun|24=>23|9=>9|3=>3|4=>4|0=>0|n=>n,fun|n=>n⟩
theorem Tryz.laysI22:Go.Proofs.Lays2.n22 Tryz.prog Tryz.laysI22_ren:={
 mixed:=by kernel_rfl
 f17:=Tryz.func193.trans (congrArg some (by kernel_rfl))
 f22:=Tryz.func77.trans (congrArg some (by kernel_rfl))
 f29:=Tryz.func134.trans (congrArg some (by kernel_rfl))
 f30:=Tryz.func135.trans (congrArg some (by kernel_rfl))
 f36:=Tryz.func171.trans (congrArg some (by kernel_rfl))
 t0:=Tryz.underlying0
 a0:=Tryz.isAgg0
 z0:=Tryz.sizeOf0
 v0:=Tryz.zeroValue0
 t3:=Tryz.underlying3
 a3:=Tryz.isAgg3
 z3:=Tryz.sizeOf3
 v3:=Tryz.zeroValue3
 t4:=Tryz.underlying4
 a4:=Tryz.isAgg4
 z4:=Tryz.sizeOf4
 v4:=Tryz.zeroValue4
 t9:=Tryz.underlying9
 a9:=Tryz.isAgg9
 z9:=Tryz.sizeOf9
 v9:=Tryz.zeroValue9
 t24:=Tryz.underlying23
 a24:=Tryz.isAgg23
 z24:=Tryz.sizeOf23
 v24:=Tryz.zeroValue23
 i9:=by kernel_rfl}
def Tryz.lays227_ren:Go.Shelf.Ren:=⟨fun|227=>128|n=>n,fun|9=>9|116=>185|4=>4|0=>0|3=>3|5=>5|n=>n,fun|n=>n⟩
theorem Tryz.lays227:Go.Proofs.Lays.n227 Tryz.prog Tryz.lays227_ren:={
 mixed:=by kernel_rfl
 f227:=Tryz.func128.trans (congrArg some (by kernel_rfl))
 t0:=Tryz.underlying0
 a0:=Tryz.isAgg0
 z0:=Tryz.sizeOf0
 v0:=Tryz.zeroValue0
 t3:=Tryz.underlying3
 a3:=Tryz.isAgg3
 z3:=Tryz.sizeOf3
 v3:=Tryz.zeroValue3
 t4:=Tryz.underlying4
 a4:=Tryz.isAgg4
 z4:=Tryz.sizeOf4
 v4:=Tryz.zeroValue4
 t5:=Tryz.underlying5
 a5:=Tryz.isAgg5
 z5:=Tryz.sizeOf5
 v5:=Tryz.zeroValue5
 t9:=Tryz.underlying9
 a9:=Tryz.isAgg9
 z9:=Tryz.sizeOf9
 v9:=Tryz.zeroValue9
 t116:=Tryz.underlying185
 a116:=Tryz.isAgg185
 z116:=Tryz.sizeOf185}
open Go.RowKit Go.Lib in
theorem Tryz.strings_makeASCIISet (hv116:∀w,(zeroValue 185).run Tryz.prog w= .ok (.agg (Array.replicate 256 (.bool false))) w)(chars:ByteArray)(w:World)(hs:chars.size<4294967281)(hascii:∀(j:Nat) b,chars.data.toList[j]? =some b→b.toNat<128):
 Calls Tryz.prog 128 #[.string chars] w fun e w'=>e= .returned (.tuple #[.agg (Lib.setCells chars.data.toList),.bool true])∧w'=w.alloc (.cells (Lib.setCells chars.data.toList) 185):=Any.strings_makeASCIISet Tryz.lays227 hv116 (by kernel_rfl) chars w hs hascii
def Tryz.lays228_ren:Go.Shelf.Ren:=⟨fun|228=>167|n=>n,fun|124=>189|5=>5|4=>4|0=>0|116=>185|n=>n,fun|n=>n⟩
theorem Tryz.lays228:Go.Proofs.Lays.n228 Tryz.prog Tryz.lays228_ren:={
 mixed:=by kernel_rfl
 f228:=Tryz.func167.trans (congrArg some (by kernel_rfl))
 t0:=Tryz.underlying0
 a0:=Tryz.isAgg0
 z0:=Tryz.sizeOf0
 v0:=Tryz.zeroValue0
 t4:=Tryz.underlying4
 a4:=Tryz.isAgg4
 z4:=Tryz.sizeOf4
 v4:=Tryz.zeroValue4
 t5:=Tryz.underlying5
 a5:=Tryz.isAgg5
 z5:=Tryz.sizeOf5
 v5:=Tryz.zeroValue5
 t116:=Tryz.underlying185
 a116:=Tryz.isAgg185
 z116:=Tryz.sizeOf185
 t124:=Tryz.underlying189
 a124:=Tryz.isAgg189
 z124:=Tryz.sizeOf189
 v124:=Tryz.zeroValue189}
open Go.RowKit Go.Lib in
theorem Tryz.asciiSet_contains (b:Nat)(x:UInt8)(v:Bool)(w:World)(hc:w.cell? ⟨b,x.toNat,none⟩=some (.bool v)):
 Calls Tryz.prog 167 #[.pointer (some ⟨b,0,none⟩),.int .u8 x.toNat] w fun e w'=>e= .returned (.bool v)∧w'=w:=Any.asciiSet_contains Tryz.lays228 b x v w hc
def Tryz.laysNm216_ren:Go.Shelf.Ren:=⟨fun|16=>76|n=>n,fun|24=>23|9=>9|4=>4|n=>n,fun|n=>n⟩
theorem Tryz.laysNm216:Go.Proofs.Lays2.n16 Tryz.prog Tryz.laysNm216_ren:={
 mixed:=by kernel_rfl
 f16:=Tryz.func76.trans (congrArg some (by kernel_rfl))
 t4:=Tryz.underlying4
 a4:=Tryz.isAgg4
 z4:=Tryz.sizeOf4
 v4:=Tryz.zeroValue4
 t9:=Tryz.underlying9
 a9:=Tryz.isAgg9
 z9:=Tryz.sizeOf9
 v9:=Tryz.zeroValue9
 t24:=Tryz.underlying23
 a24:=Tryz.isAgg23
 z24:=Tryz.sizeOf23
 v24:=Tryz.zeroValue23
 i9:=by kernel_rfl}
open Go.RowKit Go.Lib in
theorem Tryz.slices_Clone_string (b off n c:Nat)(zs:List ByteArray)(w:World)(hz:n≤zs.length)(hbig:n*16≤140737488355328)(hc:∀j,j<zs.length→w.cell? ⟨b,off+j,none⟩=some (.string (zs.getD j ByteArray.empty))):
 Calls Tryz.prog 76 #[.slice (some ⟨b,off,none⟩) n c] w fun e w'=>∃v',e= .returned v'∧w'.ownsRow w.heap.size 9 1 v' n ((zs.take n).map (Value.string))∧v'≠.slice none 0 0∧Below w.heap.size w w':=Any.slices_Clone_string Tryz.laysNm216 b off n c zs w hz hbig hc
open Go.RowKit Go.Lib in
theorem Tryz.slices_Clone_string_nil (n c:Nat)(w:World):
 Calls Tryz.prog 76 #[.slice none n c] w fun e w'=>e= .returned (.slice none 0 0)∧w'=w:=Any.slices_Clone_string_nil Tryz.laysNm216 n c w
end Go.Proofs
end
section
namespace Go.Proofs.YtolaiebjmhieiaaGreatDoor.OScan
open Go.RowKit YtolaiebjmhieiaaGreatDoorW.PrintWords YtolaiebjmhieiaaGreatDoorW.PrintLast YtolaiebjmhieiaaGreatDoorW.PrintMore
theorem open1_any (x:Fl)(w:World)(hG:Glob2 w)(hs:x.1.size≤900000):
 Calls Tryz.prog 58 #[.agg #[.string x.1,.string x.2]] w fun e w'=>e= .returned (.bool (!isNameB x.1))∧Below w.heap.size w w':=by
 obtain ⟨x1,x2⟩:=x
 simp only at hs ⊢
 have HB:=below_alloc (Below.refl w.heap.size w) (Obj.cells #[Value.string x1,Value.string x2] 46)
 have H59:=isName_any x1 (w.alloc (Obj.cells #[Value.string x1,Value.string x2] 46)) (hG.below HB) hs
 have HBB:=z0 HB
 clear HB hG
 go_enter Tryz.func58,Tryz.ntmps58
 go_wp2_with (go_at_call 59;go_loud (refine H59.mono ?_;rintro e w9 ⟨rfl,hb9⟩;have HB9:=z0 (below_step HBB.out hb9);clear hb9))
 go_ret
 exact ⟨rfl,HB9.out⟩
def filesGo:AL→List Fl→Option AL
 |m,[]=>some m
 |m,f::l=>if (alGet m f.1).isSome=true then none else filesGo (alPut m f.1 (.string f.2)) l
def openF (files:List Fl):Int × Option AL:=
 if 60<files.length then (2,none)
 else if files.any (fun f=> !isNameB f.1)=true then (3,none)
 else match filesGo [] files with|none=>(5,none)|some m=>(0,some m)
structure PrjIs (base:Nat)(w:World)(PB fm cm:Nat)(pv:Value)(m c:AL):Prop where
 hP:w.heap[PB]? =some (.cells #[.map (some fm),pv,.int .i32 0,.int .u32 0,.map (some cm)] 87 (0,0))
 hm:MapIs w fm m
 hc:MapIs w cm c
 bP:base≤PB
 bm:base≤fm
 bc:base≤cm
 ne:fm≠cm
def OpenQ (base:Nat)(w0:World)(pv:Value)(r:Int × Option AL)(e:Ending)(w':World):Prop:=
 match r with
 |(er,none)=>e= .returned (.tuple #[.pointer none,.int .i64 er])∧Below base w0 w'
 |(er,some m)=>(∃PB fm cm,e= .returned (.tuple #[.pointer (some ⟨PB,0,none⟩),.int .i64 er])∧PrjIs base w' PB fm cm pv m [])∧Below base w0 w'
theorem open_any (files:List Fl)(A:Option Addr)(c:Nat)(Ap:Option Addr)(np cp:Nat)(w:World)(hG:Glob2 w)(HC:Kd.C kFl w A files.length files)(hc:files.length≤c)(hl:files.length≤1000000)(hsz:∀f∈files,f.1.size≤900000):
 Calls Tryz.prog 31 #[.slice A files.length c,.slice Ap np cp] w (OpenQ w.heap.size w (.slice Ap np cp) (openF files)):=by
 have hmm:∀w,(Instr.makeMap 75 none).run Tryz.prog w= .ok (.map (some w.heap.size)) (w.alloc (.map #[] 0)):=fun _=>rfl
 have hmm2:∀w,(Instr.makeMap 83 none).run Tryz.prog w= .ok (.map (some w.heap.size)) (w.alloc (.map #[] 0)):=fun _=>rfl
 obtain ⟨n,hn⟩:∃n,n=files.length:=⟨_,rfl⟩
 by_cases hbig:60<files.length
 · have hr:openF files=(2,none):=by unfold openF;rw [if_pos hbig]
   rw [hr,←hn]
   have hb1:decide ((60:Int)<(n:Int))=true:=decide_eq_true (by omega)
   clear hr HC hG
   go_enter Tryz.func31,Tryz.ntmps31
   go_wp2
   go_ret2
   exact ⟨rfl,Below.refl _ _⟩
 · have hb1:decide ((60:Int)<(n:Int))=false:=decide_eq_false (by omega)
   have HGG:=z0 hG
   have HCC:=z0 HC
   have HN:=z0 hn
   have HSZ:=z0 hsz
   have HBIG:=z0 hbig
   have H57:Aside0 (∀W,Below w.heap.size w W→Calls Tryz.prog 57 #[.slice A n c,.func (.func 58) #[] #[]] W fun e w'=>e= .returned (.bool (files.any fun f=> !isNameB f.1))∧Below W.heap.size W w'):=⟨fun W hb=>by
    rw [hn]
    exact fl_any files (fun f=> !isNameB f.1) W A c (Kd.C_below HC hb) hl (fun i x w' hx hb'=>open1_any x w' ((hG.below hb).below hb') (hsz x (List.mem_of_getElem? hx)))⟩
   have hB3:=below_alloc (below_alloc (below_alloc (Below.refl w.heap.size w) (Obj.map #[] 0)) (Obj.map #[] 0)) (Obj.cells #[Value.map (some w.heap.size),Value.slice Ap np cp,Value.int IntKind.i32 0,Value.int IntKind.u32 0,Value.map (some (w.heap.size+1))] 87)
   have H57':=(H57.out _ hB3).mono (R':=fun e w'=>e= .returned (.bool (files.any fun f=> !isNameB f.1))∧Aside0 (Below w.heap.size w w')∧Aside0 (w'.heap[w.heap.size]? =some (.map #[] 0))∧Aside0 (w'.heap[w.heap.size+1]? =some (.map #[] 0))∧Aside0 (w'.heap[w.heap.size+1+1]? =some (.cells #[Value.map (some w.heap.size),Value.slice Ap np cp,Value.int IntKind.i32 0,Value.int IntKind.u32 0,Value.map (some (w.heap.size+1))] 87 (0,0)))) (fun e w' ⟨he,hb⟩=>⟨he,⟨below_step hB3 hb⟩,⟨by
    rw [hb.block _ (by simp;omega),Below.heap_alloc _ _ _ (by simp only [alloc_size];omega),Below.heap_alloc _ _ _ (by simp)]
    exact blk_new _ _⟩,⟨by
    rw [hb.block _ (by simp;try omega),Below.heap_alloc _ _ _ (by simp)]
    exact alloc_at (by simp)⟩,⟨by
    rw [hb.block _ (by simp)]
    exact alloc_at (by simp)⟩⟩)
   have hn6:n≤1000000:=by omega
   rw [←hn]
   clear hG HC hsz hbig hn hB3
   obtain ⟨bad,hbad⟩:∃bad,bad=files.any fun f=> !isNameB f.1:=⟨_,rfl⟩
   rw [←hbad] at H57'
   have HBAD:=z0 hbad
   clear hbad
   cases bad with
   |true=>
    have hr:openF files=(3,none):=by unfold openF;rw [if_neg HBIG.out,if_pos HBAD.out.symm]
    rw [hr]
    clear hr
    go_enter Tryz.func31,Tryz.ntmps31
    go_wp2_with (go_at_call 57;go_loud (refine H57'.mono ?_;rintro e w5 ⟨rfl,hb5,_⟩))
    go_ret2
    exact ⟨rfl,hb5.out⟩
   |false=>
    have hr:openF files=(match filesGo [] files with|none=>(5,none)|some m=>(0,some m)):=by unfold openF;rw [if_neg HBIG.out,if_neg (by rw [←HBAD.out];decide)]
    rw [hr]
    clear hr
    generalize hfr:filesGo [] files=fr
    have HFR:=z0 hfr
    clear hfr
    go_enter Tryz.func31,Tryz.ntmps31
    go_wp2_with (go_at_call 57;go_loud (refine H57'.mono ?_;rintro e w5 ⟨rfl,hb5,h51,h52,h53⟩))
    obtain ⟨fm,hfm⟩:∃fm,fm=w.heap.size:=⟨_,rfl⟩
    obtain ⟨cm,hcm⟩:∃cm,cm=w.heap.size+1:=⟨_,rfl⟩
    obtain ⟨PB,hPB⟩:∃PB,PB=w.heap.size+1+1:=⟨_,rfl⟩
    rw [←hPB,←hcm] at h53
    rw [←hcm] at h52
    rw [←hPB,←hcm,←hfm]
    have h51':=h51.out
    have h53':=h53.out
    rw [←hfm] at h51' h53'
    have HFM:=z0 hfm
    have HCM:=z0 hcm
    have HPB:=z0 hPB
    have HM0:Aside0 (MapIs w5 fm []):=⟨⟨_,_,h51',rfl⟩⟩
    have HP0:=z0 h53'
    have hne:¬PB=fm:=by omega
    have hne2:¬fm=PB:=by omega
    have hne3:fm≠cm:=by omega
    clear hfm hcm hPB h51 h53 h51' h53'
    go_loopg [24] n (fun kq v24 w'=>∃(i:Nat) (m:AL),v24= .int .i64 i∧Aside0 (kq+i=n)∧Aside0 (filesGo m (files.drop i)=fr)∧Aside0 (MapIs w' fm m)∧Aside0 (w'.heap[cm]? =some (.map #[] 0))∧Aside0 (w'.heap[PB]? =some (.cells #[Value.map (some fm),Value.slice Ap np cp,Value.int IntKind.i32 0,Value.int IntKind.u32 0,Value.map (some cm)] 87 (0,0)))∧Aside0 (Below w.heap.size w w'))
    case atStart=>exact ⟨0,[],rfl,⟨rfl⟩,HFR,HM0,h52,HP0,hb5⟩
    case round=>
     obtain ⟨i,m,rfl,hki,hgo,hM,hc5,hP5,hB⟩:=hrel
     have hki':=hki.out
     cases gk with
     |zero=>
      have hlt:decide ((i:Int)<(n:Int))=false:=decide_eq_false (by omega)
      have hg:=hgo.out
      rw [List.drop_eq_nil_of_le (by rw [←HN.out];omega)] at hg
      obtain rfl:fr=some m:=hg.symm
      go_wp2
      go_ret2
      exact ⟨⟨PB,fm,cm,rfl,hP5.out,hM.out,⟨_,_,hc5.out,rfl⟩,by have:=HPB.out;omega,by have:=HFM.out;omega,by have:=HCM.out;omega,hne3⟩,hB.out⟩
     |succ g1=>
      have hlt:decide ((i:Int)<(n:Int))=true:=decide_eq_true (by omega)
      have hii:(0:Int)≤(i:Int):=by omega
      obtain ⟨x,hx⟩:∃x,files[i]? =some x:=⟨_,List.getElem?_eq_getElem (by rw [←HN.out];omega)⟩
      have hdr:files.drop i=x::files.drop (i+1):=by
       obtain ⟨hl',he'⟩:=List.getElem?_eq_some_iff.1 hx
       rw [List.drop_eq_getElem_cons hl',he']
      have hg:=hgo.out
      rw [hdr,filesGo] at hg
      obtain ⟨ad,hA,hx0,hx1⟩:=fl_at HCC.out i (by rw [←HN.out];omega) x hx
      obtain rfl:=hA
      replace hx0:=(hB.out.cell (World.block_lt_of_cell? w _ hx0)).trans hx0
      replace hx1:=(hB.out.cell (World.block_lt_of_cell? w _ hx1)).trans hx1
      clear hx hdr
      obtain ⟨nm,tx⟩:=x
      simp only at hx0 hx1 hg
      go_wp2
      obtain ⟨W1,hW1⟩:∃W1,W1=wr.alloc (Obj.cells #[Value.string nm,Value.string tx] 46):=⟨_,rfl⟩
      obtain ⟨T,hT⟩:∃T,T=wr.heap.size:=⟨_,rfl⟩
      rw [←hW1,←hT]
      have HBW:Aside0 (Below wr.heap.size wr W1):=⟨by rw [hW1];exact below_alloc (Below.refl _ _) _⟩
      have hTc:W1.heap[T]? =some (.cells #[Value.string nm,Value.string tx] 46 (0,0)):=by rw [hW1,hT];exact blk_new _ _
      have HTE:=z0 hT
      clear hW1 hT
      have hP1:=(HBW.out.block _ (blk_lt hP5.out)).trans hP5.out
      have HM1:Aside0 (MapIs W1 fm m):=⟨hM.out.same (HBW.out.block _ hM.out.lt)⟩
      have HC1:Aside0 (W1.heap[cm]? =some (.map #[] 0)):=⟨(HBW.out.block _ (heap_lt hc5.out)).trans hc5.out⟩
      have HB1:Aside0 (Below w.heap.size w W1):=⟨below_step hB.out HBW.out⟩
      have hTP:¬T=PB:=by have:=HTE.out;have:=blk_lt hP5.out;omega
      have t0:W1.cell? ⟨T,0,none⟩=some (.string nm):=by have:=cell_of_row W1 T 0 _ _ _ hTc;simpa using this
      have t1:W1.cell? ⟨T,1,none⟩=some (.string tx):=by have:=cell_of_row W1 T 1 _ _ _ hTc;simpa using this
      have p0:W1.cell? ⟨PB,0,none⟩=some (.map (some fm)):=by have:=cell_of_row W1 PB 0 _ _ _ hP1;simpa using this
      have hlk:∀k:Nat,(Instr.lookup 75 (.map (some fm)) (.string nm) true).run Tryz.prog (W1.drewN k)= .ok (.tuple #[(alGet m nm).getD (.string ⟨#[]⟩),.bool (alGet m nm).isSome]) (W1.drewN k):=fun k=>
       (show MapIs (W1.drewN k) fm m from HM1.out).getOk Tryz.underlying75 nm (.string ⟨#[]⟩) (fun _=>rfl)
      have HP1:=z0 hP1
      clear hM hc5 hP5 hB hTc hP1
      generalize hog:alGet m nm=og at *
      have HOG:=z0 hog
      clear hog
      cases og with
      |some u=>
       rw [if_pos (show (some u).isSome=true from rfl)] at hg
       obtain rfl:fr=none:=hg.symm
       simp only [Option.getD_some,Option.isSome_some] at hlk
       go_quiet (fail)
       go_wp2
       go_ret2
       exact ⟨rfl,pw_below_drewN HB1.out _⟩
      |none=>
       rw [if_neg (show ¬(none:Option Value).isSome=true from by decide)] at hg
       have HGO:=z0 hg
       clear hg
       simp only [Option.getD_none,Option.isSome_none] at hlk
       go_quiet (fail)
       obtain ⟨W2,hW2⟩:∃W2,W2=W1.drewN nq:=⟨_,rfl⟩
       rw [←hW2]
       have HM2:Aside0 (MapIs W2 fm m):=⟨by rw [hW2];exact HM1.out⟩
       have HC2:Aside0 (W2.heap[cm]? =some (.map #[] 0)):=⟨by rw [hW2];exact HC1.out⟩
       have HP2:Aside0 (W2.heap[PB]? =some (.cells #[Value.map (some fm),Value.slice Ap np cp,Value.int IntKind.i32 0,Value.int IntKind.u32 0,Value.map (some cm)] 87 (0,0))):=⟨by rw [hW2];exact HP1.out⟩
       have HB2:Aside0 (Below w.heap.size w W2):=⟨by rw [hW2];exact pw_below_drewN HB1.out _⟩
       replace t0:W2.cell? ⟨T,0,none⟩=some (.string nm):=by rw [hW2];exact t0
       replace t1:W2.cell? ⟨T,1,none⟩=some (.string tx):=by rw [hW2];exact t1
       replace p0:W2.cell? ⟨PB,0,none⟩=some (.map (some fm)):=by rw [hW2];exact p0
       clear hW2 hlk HM1 HC1 HP1 HB1
       obtain ⟨W3,hrun,hM3,hO3⟩:=MapIs.put (W:=W2.drew) (mt:=75) (e:=9) (show MapIs W2.drew fm m from HM2.out) Tryz.underlying75 nm (.string tx)
       have HM3:=z0 hM3
       have HO3:=z0 hO3
       clear hM3 hO3
       go_wp2
       go_region
       have HC3:Aside0 (W3.heap[cm]? =some (.map #[] 0)):=⟨(HO3.out.block _ (Ne.symm hne3)).trans HC2.out⟩
       have HP3:Aside0 (W3.heap[PB]? =some (.cells #[Value.map (some fm),Value.slice Ap np cp,Value.int IntKind.i32 0,Value.int IntKind.u32 0,Value.map (some cm)] 87 (0,0))):=⟨(HO3.out.block _ hne).trans HP2.out⟩
       have HB3:Aside0 (Below w.heap.size w W3):=⟨OnlyAt.below (below_drew1 HB2.out) HO3.out (by have:=HFM.out;omega)⟩
       clear hrun
       go_wp2
       go_roundg g1
       case measure=>omega
       case rel=>exact ⟨i+1,_,by (try simp),⟨by omega⟩,HGO,HM3,HC3,HP3,HB3⟩
def withF (files:List Fl)(name:ByteArray):Int × Option AL:=
 match openF files with
 |(er,none)=>(er,none)
 |(er,some m)=>if (alGet m name).isSome=true then (er,some m) else (4,none)
theorem openF_err (files:List Fl):((openF files).2=none∧((openF files).1=2∨(openF files).1=3∨(openF files).1=5))∨∃m,openF files=(0,some m):=by
 unfold openF
 split
 · exact .inl ⟨rfl,.inl rfl⟩
 · split
   · exact .inl ⟨rfl,.inr (.inl rfl)⟩
   · split
     · exact .inl ⟨rfl,.inr (.inr rfl)⟩
     · exact .inr ⟨_,rfl⟩
theorem with_any (files:List Fl)(name:ByteArray)(A:Option Addr)(c:Nat)(Ap:Option Addr)(np cp:Nat)(w:World)(hG:Glob2 w)(HC:Kd.C kFl w A files.length files)(hc:files.length≤c)(hl:files.length≤1000000)(hsz:∀f∈files,f.1.size≤900000):
 Calls Tryz.prog 20 #[.slice A files.length c,.string name,.slice Ap np cp] w (OpenQ w.heap.size w (.slice Ap np cp) (withF files name)):=by
 have H31:=open_any files A c Ap np cp w hG HC hc hl hsz
 obtain ⟨n,hn⟩:∃n,n=files.length:=⟨_,rfl⟩
 rw [←hn] at H31 ⊢
 clear hn HC hG hc hl hsz
 rcases openF_err files with ⟨h1,h2⟩|⟨m,hm⟩
 · obtain ⟨er,om⟩:∃er,openF files=(er,none):=⟨(openF files).1,by rw [←h1]⟩
   have hw:withF files name=(er,none):=by unfold withF;rw [om]
   rw [om] at H31 h2
   rw [hw]
   simp only at h2
   have hne:¬er=0:=by omega
   have hne':(er !=0)=true:=by simp [hne]
   clear hw om h1 h2
   go_enter Tryz.func20,Tryz.ntmps20
   go_wp2_with (go_at_call 31;go_loud (refine H31.mono ?_;rintro e w5 ⟨rfl,hb5⟩;have HB5:=z0 hb5;clear hb5))
   go_ret2
   exact ⟨rfl,HB5.out⟩
 · rw [hm] at H31
   cases hg:alGet m name with
   |none=>
    have hw:withF files name=(4,none):=by unfold withF;rw [hm];simp [hg]
    rw [hw]
    clear hw hm
    go_enter Tryz.func20,Tryz.ntmps20
    go_wp2_with (go_at_call 31;go_loud (refine H31.mono ?_;rintro e w5 ⟨⟨PB,fm,cm,rfl,hp⟩,hb5⟩;have HB5:=z0 hb5;have HP:=z0 hp;have p0:w5.cell? ⟨PB,0,none⟩=some (.map (some fm)):=(by have:=cell_of_row w5 PB 0 _ _ _ hp.hP;simpa using this);have hlk:∀k:Nat,(Instr.lookup 75 (.map (some fm)) (.string name) true).run Tryz.prog (w5.drewN k)= .ok (.tuple #[.string ⟨#[]⟩,.bool false]) (w5.drewN k):=(fun k=>by have:=(show MapIs (w5.drewN k) fm m from hp.hm).getOk Tryz.underlying75 name (.string ⟨#[]⟩) (fun _=>rfl);rw [hg] at this;exact this);have hlk0:(Instr.lookup 75 (.map (some fm)) (.string name) true).run Tryz.prog w5= .ok (.tuple #[.string ⟨#[]⟩,.bool false]) w5:=(by have:=hp.hm.getOk Tryz.underlying75 name (.string ⟨#[]⟩) (fun _=>rfl);rw [hg] at this;exact this);clear hb5 hp))
    go_ret2
    exact ⟨rfl,HB5.out⟩
   |some u=>
    have hw:withF files name=(0,some m):=by unfold withF;rw [hm];simp [hg]
    rw [hw]
    clear hw hm
    go_enter Tryz.func20,Tryz.ntmps20
    go_wp2_with (go_at_call 31;go_loud (refine H31.mono ?_;rintro e w5 ⟨⟨PB,fm,cm,rfl,hp⟩,hb5⟩;have HB5:=z0 hb5;have HP:=z0 hp;have p0:w5.cell? ⟨PB,0,none⟩=some (.map (some fm)):=(by have:=cell_of_row w5 PB 0 _ _ _ hp.hP;simpa using this);have hlk0:(Instr.lookup 75 (.map (some fm)) (.string name) true).run Tryz.prog w5= .ok (.tuple #[u,.bool true]) w5:=(by have:=hp.hm.getOk Tryz.underlying75 name (.string ⟨#[]⟩) (fun _=>rfl);rw [hg] at this;exact this);clear hb5 hp))
    go_ret2
    exact ⟨⟨PB,fm,cm,rfl,HP.out⟩,HB5.out⟩
def blankB (b:UInt8):Bool:=([32,9]:List UInt8).contains b
def trimF:Nat→ByteArray→ByteArray
 |0,s=>s
 |k+1,s=>if s.size=0 then s else if blankB (s.data.getD 0 0)=true then trimF k (s.extract 1 s.size) else s
theorem at0 (s:ByteArray)(h:0<s.size):s.data.getD 0 0=s[0]'h:=by
 have h':0<s.data.size:=h
 simp only [Array.getD,h',dite_true]
 rfl
def trimB (s:ByteArray):ByteArray:=trimF s.size s
theorem trimA_any (s:ByteArray)(b:Nat)(w:World)(hs:s.size≤1000000)(hset:∀x:UInt8,w.cell? ⟨b,x.toNat,none⟩=some (.bool (blankB x))):
 Calls Tryz.prog 129 #[.string s,.pointer (some ⟨b,0,none⟩)] w fun e w'=>e= .returned (.string (trimB s))∧w'=w:=by
 have H167:=fun x=>Tryz.asciiSet_contains b x _ w (hset x)
 go_enter Tryz.func129,Tryz.ntmps129
 go_wp2
 go_loopg [0] s.size (fun kq v0 w'=>∃(s':ByteArray),v0= .string s'∧w'=w∧Aside0 (kq=s'.size)∧Aside0 (trimB s'=trimB s)∧Aside0 (s'.size≤1000000))
 case atStart=>exact ⟨s,rfl,rfl,⟨rfl⟩,⟨rfl⟩,⟨hs⟩⟩
 case round=>
  obtain ⟨s',rfl,rfl,hk,ht,hsz⟩:=hrel
  cases gk with
  |zero=>
   have h0:s'.size=0:=hk.out.symm
   go_wp2
   go_ret
   refine ⟨?_,rfl⟩
   rw [←ht.out,trimB,h0]
   rfl
  |succ g1=>
   have h0:(0:Int)<(s'.size:Int):=by have:=hk.out;omega
   have h1:0<s'.size:=by omega
   have h2:(1:Int)≤(s'.size:Int):=by omega
   have hex:(s'.extract 1 s'.size).size=g1:=by rw [ByteArray.size_extract];have:=hk.out;omega
   have hst:trimB s'=if blankB (s'[0]'h1)=true then trimB (s'.extract 1 s'.size) else s':=by
    have key:∀k,k=g1+1→trimF k s'=if blankB (s'[0]'h1)=true then trimF g1 (s'.extract 1 s'.size) else s':=by
     rintro k rfl
     rw [trimF,if_neg (by omega),at0 s' h1]
    unfold trimB
    rw [hex]
    exact key _ hk.out.symm
   have hle:Aside0 ((s'.extract 1 s'.size).size≤1000000):=⟨by rw [hex];have:=hk.out;have:=hsz.out;omega⟩
   have HEX:=z0 hex
   have HST:=z0 hst
   clear hex hst
   by_cases hbl:blankB (s'[0]'h1)=true
   · have H:=H167 (s'[0]'h1)
     rw [hbl] at H
     go_wp2_with (go_at_call 167;go_loud (refine H.mono ?_;rintro e w9 ⟨rfl,rfl⟩))
     go_roundg g1
     case measure=>omega
     case rel=>exact ⟨_,rfl,rfl,⟨HEX.out.symm⟩,⟨by rw [←ht.out,HST.out,if_pos hbl]⟩,hle⟩
   · have hbf:blankB (s'[0]'h1)=false:=by simpa using hbl
     have H:=H167 (s'[0]'h1)
     rw [hbf] at H
     go_wp2_with (go_at_call 167;go_loud (refine H.mono ?_;rintro e w9 ⟨rfl,rfl⟩))
     go_ret
     refine ⟨?_,rfl⟩
     rw [←ht.out,HST.out,if_neg hbl]
     rfl
theorem trimLeft_any (s:ByteArray)(w:World)(hs:s.size≤1000000):
 Calls Tryz.prog 71 #[.string s,.string ⟨#[32,9]⟩] w fun e w'=>e= .returned (.string (trimB s))∧Below w.heap.size w w':=by
 have H128:=Tryz.strings_makeASCIISet (fun _=>by kernel_rfl) ⟨#[32,9]⟩ w (by decide) (ascii_of (by decide))
 have hz:∀w,(zeroValue 185).run Tryz.prog w= .ok (.agg (Array.replicate 256 (.bool false))) w:=fun _=>by kernel_rfl
 have hS1:(Lib.setCells (⟨#[32,9]⟩:ByteArray).data.toList).size=256:=Lib.setCells_size _
 have hS2:∀x:UInt8,(Lib.setCells (⟨#[32,9]⟩:ByteArray).data.toList)[x.toNat]? =some (.bool (blankB x)):=fun x=>Lib.setCells_at [32,9] x
 have hS3:∀q∈(Lib.setCells (⟨#[32,9]⟩:ByteArray).data.toList).toList,q.oneCell'=true:=by
  rw [Lib.setCells_eq]
  intro q hq
  simp only [Array.toList_map,List.mem_map] at hq
  obtain ⟨_,_,rfl⟩:=hq
  rfl
 generalize Lib.setCells (⟨#[32,9]⟩:ByteArray).data.toList=S at *
 have hZ:(Array.replicate 256 (Value.bool false)).size=256:=by simp
 generalize Array.replicate 256 (Value.bool false)=Z at *
 obtain ⟨W1,hW1⟩:∃W1,W1=w.alloc (.cells S 185):=⟨_,rfl⟩
 have HB1:Aside0 (Below w.heap.size w W1):=⟨by rw [hW1];exact below_alloc (Below.refl _ _) _⟩
 rw [←hW1] at H128
 clear hW1
 obtain ⟨W2,hW2⟩:∃W2,W2=W1.alloc (.cells Z 185):=⟨_,rfl⟩
 have hZc:W2.heap[W1.heap.size]? =some (.cells Z 185 (0,0)):=by rw [hW2];exact blk_new _ _
 obtain ⟨cur,hc1,hc2,hc3⟩:=setCells_row S.toList 0 W2 Z hZc (by simp [hS1,hZ])
 have hcur:cur=S:=by
  apply Array.ext'
  rw [hc3]
  simp [hS1,hZ]
 rw [hcur] at hc1
 have hst:(storeCells ⟨W1.heap.size,0,none⟩ S.toList).run Tryz.prog W2= .ok () (W2.setCells W1.heap.size 0 S.toList):=by
  have:=run_storeCells_cells (P:=Tryz.prog) W1.heap.size 0 S.toList 0 W2 (fun j hj=>by
   have:0+0+j<Z.size:=by rw [hZ];rw [Array.length_toList,hS1] at hj;omega
   rw [cell_of_row W2 W1.heap.size _ Z 185 (0,0) hZc]
   simp only [Array.getElem?_eq_getElem this,Option.isSome_some]) (fun j _=>blk_frozen hZc _) hS3
  simpa using this
 obtain ⟨W3,hW3⟩:∃W3,W3=W2.setCells W1.heap.size 0 S.toList:=⟨_,rfl⟩
 rw [←hW3] at hc1 hst
 have HB3:Aside0 (Below w.heap.size w W3):=by
  obtain ⟨s1,s2,s3,s4⟩:=setCells_same W1.heap.size S.toList 0 W2
  have hB2:Below w.heap.size w W2:=by rw [hW2];exact below_alloc HB1.out _
  have hle:=HB1.out.size
  refine ⟨⟨?_,?_,?_,?_,fun k hk=> ?_⟩⟩
  · rw [hW3,s1];exact hB2.os
  · rw [hW3,s2];exact hB2.tape
  · rw [hW3,s3];exact hB2.output
  · rw [hW3,s4];exact hB2.size
  · rw [hW3,setCells_far S.toList 0 k (by omega)];exact hB2.block k hk
 have HT:Aside0 (Calls Tryz.prog 129 #[.string s,.pointer (some ⟨W1.heap.size,0,none⟩)] W3 fun e w'=>e= .returned (.string (trimB s))∧w'=W3):=⟨trimA_any s W1.heap.size W3 hs (fun x=>by rw [cell_of_row W3 W1.heap.size _ S 185 (0,0) hc1];exact hS2 x)⟩
 clear hW3 hc2 hc3 hcur hZc hS2 hS3 hc1
 rw [hW2] at hst
 clear hW2
 by_cases h0:s.toList=([]:List UInt8)
 · have c1:(s.toList==([]:List UInt8))=true:=beq_iff_eq.mpr h0
   have hz0:s.size=0:=by
    have:=congrArg List.length h0
    rw [ByteArray.toList_eq,data_length] at this
    exact this
   have ht:trimB s=s:=by unfold trimB;rw [hz0];rfl
   rw [ht]
   clear h0
   go_enter Tryz.func71,Tryz.ntmps71
   go_wp2
   go_ret
   exact ⟨rfl,Below.refl _ _⟩
 · have c1:(s.toList==([]:List UInt8))=false:=beq_eq_false_iff_ne.mpr h0
   clear h0
   go_enter Tryz.func71,Tryz.ntmps71
   go_wp2_with (first|(go_at_call 128;go_loud (refine H128.mono ?_;rintro e w9 ⟨rfl,rfl⟩))|(go_at_call 129;go_loud (refine HT.out.mono ?_;rintro e w9 ⟨rfl,rfl⟩)))
   go_ret
   exact ⟨rfl,HB3.out⟩
abbrev incL:List UInt8:=[105,110,99,108,117,100,101]
def useV (u:Option (ByteArray × Bool)):Value:=match u with
 |none=> .agg #[.string ⟨#[]⟩,.bool false,.string ⟨#[]⟩]
 |some (n,q)=> .agg #[.string n,.bool q,.string ⟨#[]⟩]
theorem inc_not (t:Tk)(kd:ByteArray)(w:World)(hG:Glob2 w)(hk:KindOf t kd)(hne:kd.toList≠incL):
 Calls Tryz.prog 42 #[.agg #[.int .i64 t.1,.string t.2.1,.string t.2.2.1,.int .i64 t.2.2.2]] w fun e w'=>e= .returned (.tuple #[useV none,.bool false])∧Below w.heap.size w w':=by
 obtain ⟨k,hk⟩:=hk
 obtain ⟨t1,t2,t3,t4⟩:=t
 simp only at hk ⊢
 have hB:=below_alloc (below_alloc (Below.refl w.heap.size w) (Obj.cells #[Value.int .i64 t1,Value.string t2,Value.string t3,Value.int .i64 t4] 95)) (Obj.cells #[Value.string ⟨#[]⟩,Value.bool false,Value.string ⟨#[]⟩] 34)
 have H67:=OCond.cond_Kind.calls k t1 t2 t3 t4 kd _ hk (hG.below hB)
 have HB:=z0 hB
 have c1:(kd.toList !=incL)=true:=bne_iff_ne.mpr hne
 have c1':(kd.toList==incL)=false:=beq_eq_false_iff_ne.mpr hne
 clear hB hG hk hne
 go_enter Tryz.func42,Tryz.ntmps42
 go_wp2_with (go_at_call 67;go_loud (refine H67.mono ?_;rintro e w9 ⟨rfl,hb9⟩;have h2:=(hb9.block (w.heap.size+1) (by simp)).trans (alloc_at (by simp));have u0:w9.cell? ⟨w.heap.size+1,0,none⟩=some (.string ⟨#[]⟩):=(by have:=cell_of_row w9 _ 0 _ _ _ h2;simpa using this);have u1:w9.cell? ⟨w.heap.size+1,1,none⟩=some (.bool false):=(by have:=cell_of_row w9 _ 1 _ _ _ h2;simpa using this);have u2:w9.cell? ⟨w.heap.size+1,2,none⟩=some (.string ⟨#[]⟩):=(by have:=cell_of_row w9 _ 2 _ _ _ h2;simpa using this);have f0:=blk_frozen h2 0;have f1:=blk_frozen h2 1;have f2:=blk_frozen h2 2;have HB9:=z0 (below_step HB.out hb9);have H2:=z0 h2;clear hb9 h2))
 obtain ⟨W3,hW3⟩:∃W3,W3=(((w9.setCell {block:=w.heap.size+1,off:=0} (Value.string {data:= #[]})).setCell {block:=w.heap.size+1,off:=1} (Value.bool false)).setCell {block:=w.heap.size+1,off:=2} (Value.string {data:= #[]})):=⟨_,rfl⟩
 rw [←hW3]
 have h3:W3.heap[w.heap.size+1]? =some (.cells #[.string ⟨#[]⟩,.bool false,.string ⟨#[]⟩] 34 (0,0)):=by
  rw [hW3];exact blk_put (blk_put (blk_put H2.out 0 _ rfl) 1 _ rfl) 2 _ rfl
 have HB3:Aside0 (Below w.heap.size w W3):=⟨by rw [hW3];exact below_set (below_set (below_set HB9.out (by omega)) (by omega)) (by omega)⟩
 clear u0 u1 u2 f0 f1 f2 hW3 H2
 have u0:W3.cell? ⟨w.heap.size+1,0,none⟩=some (.string ⟨#[]⟩):=by have:=cell_of_row W3 _ 0 _ _ _ h3;simpa using this
 have u1:W3.cell? ⟨w.heap.size+1,1,none⟩=some (.bool false):=by have:=cell_of_row W3 _ 1 _ _ _ h3;simpa using this
 have u2:W3.cell? ⟨w.heap.size+1,2,none⟩=some (.string ⟨#[]⟩):=by have:=cell_of_row W3 _ 2 _ _ _ h3;simpa using this
 refine bodyPost_ret (v:= .tuple #[useV none,.bool false]) ?res rfl ⟨rfl,HB3.out⟩
 case res=>
  unfold results
  rw [show Tryz.f42.results= #[.cell 2 34,.tmp 3] from rfl]
  go_simp
  rfl
theorem trimF_le:∀(k:Nat) (s:ByteArray),(trimF k s).size≤s.size
 |0,s=>Nat.le_refl _
 |k+1,s=>by
  unfold trimF
  split
  · exact Nat.le_refl _
  · split
    · exact Nat.le_trans (trimF_le k _) (by rw [ByteArray.size_extract];omega)
    · exact Nat.le_refl _
theorem trimB_le (s:ByteArray):(trimB s).size≤s.size:=trimF_le _ _
def hasP (rest:ByteArray)(c:UInt8):Bool:=(OCond.strings_HasPrefix.f rest ⟨#[c]⟩).getD false
theorem hasP_f (rest:ByteArray)(c:UInt8):OCond.strings_HasPrefix.f rest ⟨#[c]⟩=some (hasP rest c):=by
 have h1:(⟨#[c]⟩:ByteArray).size=1:=rfl
 unfold hasP
 unfold OCond.strings_HasPrefix.f OCond.stringslite_HasPrefix.f
 rw [h1]
 by_cases h:(rest.size:Int)≥((1:Nat):Int)
 · rw [if_pos h,if_pos (by omega),if_pos h];rfl
 · rw [if_neg h];rfl
theorem hasP_size {rest:ByteArray}{c:UInt8}(h:hasP rest c=true):1≤rest.size:=by
 have h1:(⟨#[c]⟩:ByteArray).size=1:=rfl
 unfold hasP at h
 unfold OCond.strings_HasPrefix.f OCond.stringslite_HasPrefix.f at h
 rw [h1] at h
 by_cases h2:(rest.size:Int)≥((1:Nat):Int)
 · omega
 · rw [if_neg h2] at h;simp at h
def between (rest:ByteArray)(c:UInt8)(q:Bool):Option (ByteArray × Bool):=
 let e:=Lib.indexByte (rest.extract 1 rest.size).data.toList c
 if e<0 then none else some (rest.extract 1 (1+e).toNat,q)
theorem indexByte_bounds (s:ByteArray)(c:UInt8): -1≤Lib.indexByte s.data.toList c∧Lib.indexByte s.data.toList c<(s.size:Int):=by
 have h1:=Lib.indexByte_ge s.data.toList c
 refine ⟨h1,?_⟩
 by_cases h:Lib.indexByte s.data.toList c= -1
 · rw [h];omega
 · obtain ⟨o,ho⟩:=Int.eq_ofNat_of_zero_le (show 0≤Lib.indexByte s.data.toList c by omega)
   obtain ⟨h2,_⟩:=Lib.indexByte_some ho
   have h3:=(List.getElem?_eq_some_iff.1 h2).1
   rw [data_length] at h3
   omega
def incP (rest:ByteArray):Option (ByteArray × Bool):=
 if hasP rest 34=true then between rest 34 true else if hasP rest 60=true then between rest 62 false else none
theorem inc_yes (t:Tk)(kd:ByteArray)(ws:List OCond.S95)(er a:Int)(w:World)(hG:Glob2 w)(hk:KindOf t kd)(hne:kd.toList=incL)(hW:OCond.cond_Words.f t.1 t.2.1 t.2.2.1 t.2.2.2=some (ws,er))
 (hl:1≤ws.length) (ha:(OCond.rd_T95 ws 0).f3=a) (h0:0≤a) (h1:a+8≤t.2.2.1.size) (hs:t.2.2.1.size≤1000000) (r:Option (ByteArray × Bool)) (hr:r=incP (trimB (t.2.2.1.extract (a+8).toNat t.2.2.1.size))):
 Calls Tryz.prog 42 #[.agg #[.int .i64 t.1,.string t.2.1,.string t.2.2.1,.int .i64 t.2.2.2]] w fun e w'=>e= .returned (.tuple #[useV r,.bool r.isSome])∧Below w.heap.size w w':=by
 obtain ⟨k,hk⟩:=hk
 obtain ⟨t1,t2,t3,t4⟩:=t
 simp only at hk hW h1 hs hr ⊢
 have hB:=below_alloc (below_alloc (Below.refl w.heap.size w) (Obj.cells #[Value.int .i64 t1,Value.string t2,Value.string t3,Value.int .i64 t4] 95)) (Obj.cells #[Value.string ⟨#[]⟩,Value.bool false,Value.string ⟨#[]⟩] 34)
 have H67:=OCond.cond_Kind.calls k t1 t2 t3 t4 kd _ hk (hG.below hB)
 have H70:=fun W hG'=>OCond.cond_Words.calls t1 t2 t3 t4 ws er W hW hG'
 have HB:=z0 hB
 have HG:=z0 hG
 have c1:(kd.toList !=incL)=false:=bne_eq_false_iff_eq.mpr hne
 have c1':(kd.toList==incL)=true:=beq_iff_eq.mpr hne
 obtain ⟨p,hp⟩:∃p,p=a+8:=⟨_,rfl⟩
 rw [←hp] at hr
 have w1:IntKind.i64.wrap (1+a)=1+a:=IntWalk.i64_in _ (by omega)
 have w2:IntKind.i64.wrap (1+a+7)=p:=by rw [IntWalk.i64_in _ (by omega)];omega
 have w3:(0:Int)≤p:=by omega
 have w4:p≤(t3.size:Int):=by omega
 have HTL:Aside0 (∀W,Calls Tryz.prog 71 #[.string (t3.extract p.toNat t3.size),.string ⟨#[32,9]⟩] W fun e w'=>e= .returned (.string (trimB (t3.extract p.toNat t3.size)))∧Below W.heap.size W w'):=⟨fun W=>trimLeft_any _ W (by rw [ByteArray.size_extract];omega)⟩
 clear hp h0 h1
 have hrl:(trimB (t3.extract p.toNat t3.size)).size≤1000000:=Nat.le_trans (trimB_le _) (by rw [ByteArray.size_extract];omega)
 generalize trimB (t3.extract p.toNat t3.size)=rest at *
 have H72:Aside0 (∀(c:UInt8) (W:World),Calls Tryz.prog 72 #[.string rest,.string ⟨#[c]⟩] W fun e w'=>e= .returned (.bool (hasP rest c))∧Below W.heap.size W w'):=⟨fun c W=>(OCond.strings_HasPrefix.calls rest ⟨#[c]⟩ _ W (hasP_f rest c)).mono fun e w' ⟨h1,h2⟩=>⟨h1,h2.below⟩⟩
 have HA:=z0 ha
 have HL:=z0 hl
 have HRR:=z0 hr
 obtain ⟨m,hm⟩:∃m,m=ws.length:=⟨_,rfl⟩
 have hlz:(0:Int)<(m:Int):=by omega
 have hlm:0<m:=by omega
 have HM:=z0 hm
 clear hm hl
 clear hB hG hk hne hW ha hr
 go_enter Tryz.func42,Tryz.ntmps42
 go_wp2_with (first|(go_at_call 67;go_loud (refine H67.mono ?_;rintro e w9 ⟨rfl,hb9⟩;have h2:=(hb9.block (w.heap.size+1) (by simp)).trans (alloc_at (by simp));have h3:=(hb9.block w.heap.size (by simp;omega)).trans ((Below.heap_alloc _ _ _ (by simp)).trans (blk_new _ _));have b0:w9.cell? ⟨w.heap.size,0,none⟩=some (.int .i64 t1):=(by have:=cell_of_row w9 _ 0 _ _ _ h3;simpa using this);have b1:w9.cell? ⟨w.heap.size,1,none⟩=some (.string t2):=(by have:=cell_of_row w9 _ 1 _ _ _ h3;simpa using this);have b2:w9.cell? ⟨w.heap.size,2,none⟩=some (.string t3):=(by have:=cell_of_row w9 _ 2 _ _ _ h3;simpa using this);have b3:w9.cell? ⟨w.heap.size,3,none⟩=some (.int .i64 t4):=(by have:=cell_of_row w9 _ 3 _ _ _ h3;simpa using this);have HB9:=z0 (below_step HB.out hb9);have H2:=z0 h2;have H3:=z0 h3;clear hb9 h2 h3))|(go_at_call 70;go_loud (refine (H70 _ (HG.out.below HB9.out)).mono ?_;rintro e w7 ⟨v7,rfl,hr7,hb7⟩;obtain ⟨g7,c7,hv7,_⟩:=Kd.R_form hr7 (by have:=HL.out;omega);rw [←HM.out] at hv7;subst hv7;obtain ⟨ad,e1,_,_,_,q3⟩:=OCond.at_T95 (Kd.R_reads' hr7).2.2 0 (by omega) (by have:=HL.out;omega);obtain rfl:ad=⟨g7,0,none⟩:=(by injection e1 with e1;exact e1.symm);rw [HA.out] at q3;have q3':w7.cell? ⟨g7,3,none⟩=some (.int .i64 a):=(by simpa [Addr.add] using q3);clear q3 e1;have HR7:=z0 hr7;have HB7:=z0 (below_step HB9.out hb7);have H27:=z0 ((hb7.block _ (blk_lt H2.out)).trans H2.out);have h37:=(hb7.block _ (blk_lt H3.out)).trans H3.out;have b2:w7.cell? ⟨w.heap.size,2,none⟩=some (.string t3):=(by have:=cell_of_row w7 _ 2 _ _ _ h37;simpa using this);clear hr7 hb7 h37)))
 go_still_tail 9,(by kernel_rfl)
 change wpList _ _ _ _ _ w7.drew
 obtain ⟨w6,hw6⟩:∃w6,w6=w7.drew:=⟨_,rfl⟩
 rw [←hw6]
 have HB6:Aside0 (Below w.heap.size w w6):=⟨by rw [hw6];exact below_drew1 HB7.out⟩
 have H26:Aside0 (w6.heap[w.heap.size+1]? =some (.cells #[.string ⟨#[]⟩,.bool false,.string ⟨#[]⟩] 34 (0,0))):=⟨by rw [hw6];exact H27.out⟩
 clear hw6 b0 b1 b2 b3 q3' HR7 H27 H2 H3 HB9 HB7
 go_wp2_with (go_at_call 71;go_loud (refine (HTL.out _).mono ?_;rintro e w5 ⟨rfl,hb5⟩;have HB5:=z0 (below_step HB6.out hb5);have H25:=z0 ((hb5.block _ (blk_lt H26.out)).trans H26.out);clear hb5))
 obtain ⟨B2,hB2⟩:∃B2,B2=w.heap.size+1:=⟨_,rfl⟩
 obtain ⟨MB,hMBe⟩:∃MB,MB=w5.heap.size:=⟨_,rfl⟩
 rw [←hB2] at H25
 rw [←hB2,←hMBe]
 obtain ⟨W0,hW0⟩:∃W0,W0=w5.alloc (Obj.cells #[Value.string {data:= #[34,34]},Value.string {data:= #[60,62]}] 9):=⟨_,rfl⟩
 rw [←hW0]
 have HB0:Aside0 (Below w.heap.size w W0):=⟨by rw [hW0];exact below_alloc HB5.out _⟩
 have H20:Aside0 (W0.heap[B2]? =some (.cells #[.string ⟨#[]⟩,.bool false,.string ⟨#[]⟩] 34 (0,0))):=⟨by rw [hW0];exact blk_alloc H25.out _⟩
 have HM0:Aside0 (W0.heap[MB]? =some (.cells #[Value.string {data:= #[34,34]},Value.string {data:= #[60,62]}] 9 (0,0))):=⟨by rw [hW0,hMBe];exact blk_new _ _⟩
 have HB2:Aside0 (w.heap.size≤B2):=⟨by omega⟩
 clear hW0 hB2 hMBe HB5 H25 HB6 H26
 have hincP:Aside0 (incP rest=if hasP rest 34=true then between rest 34 true else if hasP rest 60=true then between rest 62 false else none):=⟨rfl⟩
 go_loopg [31] 2 (fun kq v31 w'=>∃(i:Nat),v31= .int .i64 i∧Aside0 (kq+i=2)∧Aside0 (1≤i→hasP rest 34=false)∧Aside0 (2≤i→hasP rest 60=false)∧Aside0 (w'.heap[B2]? =some (.cells #[.string ⟨#[]⟩,.bool false,.string ⟨#[]⟩] 34 (0,0)))∧Aside0 (w'.heap[MB]? =some (.cells #[Value.string {data:= #[34,34]},Value.string {data:= #[60,62]}] 9 (0,0)))∧Aside0 (Below w.heap.size w w'))
 case atStart=>exact ⟨0,rfl,⟨rfl⟩,⟨fun h=>absurd h (by decide)⟩,⟨fun h=>absurd h (by decide)⟩,H20,HM0,HB0⟩
 case round=>
  obtain ⟨i,rfl,hki,h34,h60,h2r,hMB,hB⟩:=hrel
  have hki':=hki.out
  obtain rfl|rfl|rfl:i=0∨i=1∨i=2:=by omega
  · obtain rfl:gk=2:=by omega
    have hc:(wr.cell? ⟨MB,0,none⟩)=some (.string ⟨#[34,34]⟩):=by have:=cell_of_row wr _ 0 _ _ _ hMB.out;simpa using this
    cases hp:hasP rest 34 with
    |false=>
     have H:=H72.out 34
     rw [hp] at H
     have HP:=z0 hp
     clear hp
     go_wp2_with (go_at_call 72;go_loud (refine (H _).mono ?_;rintro e w4 ⟨rfl,hb4⟩;have HB4:=z0 (below_step hB.out hb4);have h24:=z0 ((hb4.block _ (blk_lt h2r.out)).trans h2r.out);have hMB4:=z0 ((hb4.block _ (blk_lt hMB.out)).trans hMB.out);clear hb4))
     go_roundg 1
     case measure=>omega
     case rel=>exact ⟨1,by (try simp),⟨rfl⟩,⟨fun _=>HP.out⟩,⟨fun h=>absurd h (by decide)⟩,h24,hMB4,HB4⟩
    |true=>
     have H:=H72.out 34
     rw [hp] at H
     have hsz:=hasP_size hp
     have hsz':(1:Int)≤(rest.size:Int):=by omega
     have HP:=z0 hp
     clear hp
     obtain ⟨e1,e2⟩:=indexByte_bounds (rest.extract 1 rest.size) 34
     have H73:Aside0 (∀W,Calls Tryz.prog 73 #[.string (rest.extract 1 rest.size),.int .u8 34] W fun e w'=>e= .returned (.int .i64 (Lib.indexByte (rest.extract 1 rest.size).data.toList 34))∧w'=W):=⟨fun W=>Tryz.strings_IndexByte _ 34 W⟩
     have hrb:r=(let e:=Lib.indexByte (rest.extract 1 rest.size).data.toList 34;if e<0 then none else some (rest.extract 1 (1+e).toNat,true)):=by rw [HRR.out,hincP.out,if_pos HP.out];rfl
     generalize Lib.indexByte (rest.extract 1 rest.size).data.toList 34=ev at *
     have hes:((rest.extract 1 rest.size).size:Int)=rest.size-1:=by rw [ByteArray.size_extract];omega
     rw [hes] at e2
     clear hes
     go_wp2_with (go_at_call 72;go_loud (refine (H _).mono ?_;rintro e w4 ⟨rfl,hb4⟩;have HB4:=z0 (below_step hB.out hb4);have h24:=(hb4.block _ (blk_lt h2r.out)).trans h2r.out;replace hc:=(hb4.cell (World.block_lt_of_cell? wr _ hc)).trans hc;clear hb4))
     go_quiet (first|(go_at_call 73;refine Calls.quiet_of_same (H73.out _)))
     obtain ⟨w2_,hw2⟩:∃w2_,w2_=w4.drewN nq:=⟨_,rfl⟩
     rw [←hw2]
     have HB2_:Aside0 (Below w.heap.size w w2_):=⟨by rw [hw2];exact pw_below_drewN HB4.out _⟩
     have h22:w2_.heap[B2]? =some (.cells #[.string ⟨#[]⟩,.bool false,.string ⟨#[]⟩] 34 (0,0)):=by rw [hw2];exact h24
     replace hc:w2_.cell? ⟨MB,0,none⟩=some (.string ⟨#[34,34]⟩):=by rw [hw2];exact hc
     clear hw2 h24
     have u0:w2_.cell? ⟨B2,0,none⟩=some (.string ⟨#[]⟩):=by have:=cell_of_row w2_ _ 0 _ _ _ h22;simpa using this
     have u1:w2_.cell? ⟨B2,1,none⟩=some (.bool false):=by have:=cell_of_row w2_ _ 1 _ _ _ h22;simpa using this
     have u2:w2_.cell? ⟨B2,2,none⟩=some (.string ⟨#[]⟩):=by have:=cell_of_row w2_ _ 2 _ _ _ h22;simpa using this
     have f0:=blk_frozen h22 0
     have f1:=blk_frozen h22 1
     have f2:=blk_frozen h22 2
     have H22:=z0 h22
     clear h22
     (try dsimp only at hrb)
     by_cases hev:ev<0
     · rw [if_pos hev] at hrb
       subst hrb
       have hd:decide (ev<0)=true:=decide_eq_true hev
       go_wp2
       obtain ⟨W3,hW3⟩:∃W3,W3=((w2_.setCell ⟨B2,0,none⟩ (Value.string ⟨#[]⟩)).setCell ⟨B2,1,none⟩ (Value.bool false)).setCell ⟨B2,2,none⟩ (Value.string ⟨#[]⟩):=⟨_,rfl⟩
       rw [←hW3]
       have h3:W3.heap[B2]? =some (.cells #[.string ⟨#[]⟩,.bool false,.string ⟨#[]⟩] 34 (0,0)):=by
        rw [hW3];exact blk_put (blk_put (blk_put H22.out 0 _ rfl) 1 _ rfl) 2 _ rfl
       have HB3:Aside0 (Below w.heap.size w W3):=⟨by rw [hW3];exact below_set (below_set (below_set HB2_.out HB2.out) HB2.out) HB2.out⟩
       clear u0 u1 u2 f0 f1 f2 hW3
       have u0:W3.cell? ⟨B2,0,none⟩=some (.string ⟨#[]⟩):=by have:=cell_of_row W3 _ 0 _ _ _ h3;simpa using this
       have u1:W3.cell? ⟨B2,1,none⟩=some (.bool false):=by have:=cell_of_row W3 _ 1 _ _ _ h3;simpa using this
       have u2:W3.cell? ⟨B2,2,none⟩=some (.string ⟨#[]⟩):=by have:=cell_of_row W3 _ 2 _ _ _ h3;simpa using this
       refine bodyPost_ret (v:= .tuple #[useV none,.bool false]) ?res rfl ⟨rfl,HB3.out⟩
       case res=>
        unfold results
        rw [show Tryz.f42.results= #[.cell 2 34,.tmp 3] from rfl]
        go_simp
        first|done|rfl
     · rw [if_neg hev] at hrb
       subst hrb
       have hd:decide (ev<0)=false:=decide_eq_false hev
       have g1:IntKind.i64.wrap (1+ev)=1+ev:=IntWalk.i64_in _ (by omega)
       have g2:(1:Int)≤1+ev:=by omega
       have g3:1+ev≤(rest.size:Int):=by omega
       go_wp2
       go_region
       obtain ⟨W3,hW3⟩:∃W3,W3=(((w2_.setCell ⟨B2,0,none⟩ (Value.string (rest.extract 1 (1+ev).toNat))).setCell ⟨B2,1,none⟩ (Value.bool true)).setCell ⟨B2,2,none⟩ (Value.string ⟨#[]⟩)).drew:=⟨_,rfl⟩
       refine (show Exit.then _ _ _ _ W3→_ from fun h=>by rw [hW3] at h;exact h) ?_
       have h3:W3.heap[B2]? =some (.cells #[.string (rest.extract 1 (1+ev).toNat),.bool true,.string ⟨#[]⟩] 34 (0,0)):=by
        rw [hW3];refine blk_drew ?_;exact blk_put (blk_put (blk_put H22.out 0 _ rfl) 1 _ rfl) 2 _ rfl
       have HB3:Aside0 (Below w.heap.size w W3):=⟨by rw [hW3];refine below_drew1 ?_;exact below_set (below_set (below_set HB2_.out HB2.out) HB2.out) HB2.out⟩
       clear u0 u1 u2 f0 f1 f2 hW3
       have u0:W3.cell? ⟨B2,0,none⟩=some (.string (rest.extract 1 (1+ev).toNat)):=by have:=cell_of_row W3 _ 0 _ _ _ h3;simpa using this
       have u1:W3.cell? ⟨B2,1,none⟩=some (.bool true):=by have:=cell_of_row W3 _ 1 _ _ _ h3;simpa using this
       have u2:W3.cell? ⟨B2,2,none⟩=some (.string ⟨#[]⟩):=by have:=cell_of_row W3 _ 2 _ _ _ h3;simpa using this
       go_wp2
       refine bodyPost_ret (v:= .tuple #[useV (some ((rest.extract 1 (1+ev).toNat),true)),.bool true]) ?res rfl ⟨rfl,HB3.out⟩
       case res=>
        unfold results
        rw [show Tryz.f42.results= #[.cell 2 34,.tmp 3] from rfl]
        go_simp
        first|done|rfl
  · obtain rfl:gk=1:=by omega
    have hc:(wr.cell? ⟨MB,1,none⟩)=some (.string ⟨#[60,62]⟩):=by have:=cell_of_row wr _ 1 _ _ _ hMB.out;simpa using this
    cases hp:hasP rest 60 with
    |false=>
     have H:=H72.out 60
     rw [hp] at H
     have HP:=z0 hp
     clear hp
     go_wp2_with (go_at_call 72;go_loud (refine (H _).mono ?_;rintro e w4 ⟨rfl,hb4⟩;have HB4:=z0 (below_step hB.out hb4);have h24:=z0 ((hb4.block _ (blk_lt h2r.out)).trans h2r.out);have hMB4:=z0 ((hb4.block _ (blk_lt hMB.out)).trans hMB.out);clear hb4))
     go_roundg 0
     case measure=>omega
     case rel=>exact ⟨2,by (try simp),⟨rfl⟩,⟨fun _=>h34.out (by omega)⟩,⟨fun h=>HP.out⟩,h24,hMB4,HB4⟩
    |true=>
     have H:=H72.out 60
     rw [hp] at H
     have hsz:=hasP_size hp
     have hsz':(1:Int)≤(rest.size:Int):=by omega
     have HP:=z0 hp
     clear hp
     obtain ⟨e1,e2⟩:=indexByte_bounds (rest.extract 1 rest.size) 62
     have H73:Aside0 (∀W,Calls Tryz.prog 73 #[.string (rest.extract 1 rest.size),.int .u8 62] W fun e w'=>e= .returned (.int .i64 (Lib.indexByte (rest.extract 1 rest.size).data.toList 62))∧w'=W):=⟨fun W=>Tryz.strings_IndexByte _ 62 W⟩
     have hrb:r=(let e:=Lib.indexByte (rest.extract 1 rest.size).data.toList 62;if e<0 then none else some (rest.extract 1 (1+e).toNat,false)):=by rw [HRR.out,hincP.out,if_neg (by rw [h34.out (by omega)];decide),if_pos HP.out];rfl
     generalize Lib.indexByte (rest.extract 1 rest.size).data.toList 62=ev at *
     have hes:((rest.extract 1 rest.size).size:Int)=rest.size-1:=by rw [ByteArray.size_extract];omega
     rw [hes] at e2
     clear hes
     go_wp2_with (go_at_call 72;go_loud (refine (H _).mono ?_;rintro e w4 ⟨rfl,hb4⟩;have HB4:=z0 (below_step hB.out hb4);have h24:=(hb4.block _ (blk_lt h2r.out)).trans h2r.out;replace hc:=(hb4.cell (World.block_lt_of_cell? wr _ hc)).trans hc;clear hb4))
     go_quiet (first|(go_at_call 73;refine Calls.quiet_of_same (H73.out _)))
     obtain ⟨w2_,hw2⟩:∃w2_,w2_=w4.drewN nq:=⟨_,rfl⟩
     rw [←hw2]
     have HB2_:Aside0 (Below w.heap.size w w2_):=⟨by rw [hw2];exact pw_below_drewN HB4.out _⟩
     have h22:w2_.heap[B2]? =some (.cells #[.string ⟨#[]⟩,.bool false,.string ⟨#[]⟩] 34 (0,0)):=by rw [hw2];exact h24
     replace hc:w2_.cell? ⟨MB,1,none⟩=some (.string ⟨#[60,62]⟩):=by rw [hw2];exact hc
     clear hw2 h24
     have u0:w2_.cell? ⟨B2,0,none⟩=some (.string ⟨#[]⟩):=by have:=cell_of_row w2_ _ 0 _ _ _ h22;simpa using this
     have u1:w2_.cell? ⟨B2,1,none⟩=some (.bool false):=by have:=cell_of_row w2_ _ 1 _ _ _ h22;simpa using this
     have u2:w2_.cell? ⟨B2,2,none⟩=some (.string ⟨#[]⟩):=by have:=cell_of_row w2_ _ 2 _ _ _ h22;simpa using this
     have f0:=blk_frozen h22 0
     have f1:=blk_frozen h22 1
     have f2:=blk_frozen h22 2
     have H22:=z0 h22
     clear h22
     (try dsimp only at hrb)
     by_cases hev:ev<0
     · rw [if_pos hev] at hrb
       subst hrb
       have hd:decide (ev<0)=true:=decide_eq_true hev
       go_wp2
       obtain ⟨W3,hW3⟩:∃W3,W3=((w2_.setCell ⟨B2,0,none⟩ (Value.string ⟨#[]⟩)).setCell ⟨B2,1,none⟩ (Value.bool false)).setCell ⟨B2,2,none⟩ (Value.string ⟨#[]⟩):=⟨_,rfl⟩
       rw [←hW3]
       have h3:W3.heap[B2]? =some (.cells #[.string ⟨#[]⟩,.bool false,.string ⟨#[]⟩] 34 (0,0)):=by
        rw [hW3];exact blk_put (blk_put (blk_put H22.out 0 _ rfl) 1 _ rfl) 2 _ rfl
       have HB3:Aside0 (Below w.heap.size w W3):=⟨by rw [hW3];exact below_set (below_set (below_set HB2_.out HB2.out) HB2.out) HB2.out⟩
       clear u0 u1 u2 f0 f1 f2 hW3
       have u0:W3.cell? ⟨B2,0,none⟩=some (.string ⟨#[]⟩):=by have:=cell_of_row W3 _ 0 _ _ _ h3;simpa using this
       have u1:W3.cell? ⟨B2,1,none⟩=some (.bool false):=by have:=cell_of_row W3 _ 1 _ _ _ h3;simpa using this
       have u2:W3.cell? ⟨B2,2,none⟩=some (.string ⟨#[]⟩):=by have:=cell_of_row W3 _ 2 _ _ _ h3;simpa using this
       refine bodyPost_ret (v:= .tuple #[useV none,.bool false]) ?res rfl ⟨rfl,HB3.out⟩
       case res=>
        unfold results
        rw [show Tryz.f42.results= #[.cell 2 34,.tmp 3] from rfl]
        go_simp
        first|done|rfl
     · rw [if_neg hev] at hrb
       subst hrb
       have hd:decide (ev<0)=false:=decide_eq_false hev
       have g1:IntKind.i64.wrap (1+ev)=1+ev:=IntWalk.i64_in _ (by omega)
       have g2:(1:Int)≤1+ev:=by omega
       have g3:1+ev≤(rest.size:Int):=by omega
       go_wp2
       go_region
       obtain ⟨W3,hW3⟩:∃W3,W3=(((w2_.setCell ⟨B2,0,none⟩ (Value.string (rest.extract 1 (1+ev).toNat))).setCell ⟨B2,1,none⟩ (Value.bool false)).setCell ⟨B2,2,none⟩ (Value.string ⟨#[]⟩)).drew:=⟨_,rfl⟩
       refine (show Exit.then _ _ _ _ W3→_ from fun h=>by rw [hW3] at h;exact h) ?_
       have h3:W3.heap[B2]? =some (.cells #[.string (rest.extract 1 (1+ev).toNat),.bool false,.string ⟨#[]⟩] 34 (0,0)):=by
        rw [hW3];refine blk_drew ?_;exact blk_put (blk_put (blk_put H22.out 0 _ rfl) 1 _ rfl) 2 _ rfl
       have HB3:Aside0 (Below w.heap.size w W3):=⟨by rw [hW3];refine below_drew1 ?_;exact below_set (below_set (below_set HB2_.out HB2.out) HB2.out) HB2.out⟩
       clear u0 u1 u2 f0 f1 f2 hW3
       have u0:W3.cell? ⟨B2,0,none⟩=some (.string (rest.extract 1 (1+ev).toNat)):=by have:=cell_of_row W3 _ 0 _ _ _ h3;simpa using this
       have u1:W3.cell? ⟨B2,1,none⟩=some (.bool false):=by have:=cell_of_row W3 _ 1 _ _ _ h3;simpa using this
       have u2:W3.cell? ⟨B2,2,none⟩=some (.string ⟨#[]⟩):=by have:=cell_of_row W3 _ 2 _ _ _ h3;simpa using this
       go_wp2
       refine bodyPost_ret (v:= .tuple #[useV (some ((rest.extract 1 (1+ev).toNat),false)),.bool true]) ?res rfl ⟨rfl,HB3.out⟩
       case res=>
        unfold results
        rw [show Tryz.f42.results= #[.cell 2 34,.tmp 3] from rfl]
        go_simp
        first|done|rfl
  · obtain rfl:gk=0:=by omega
    have hrn:r=none:=by rw [HRR.out,hincP.out,if_neg (by rw [h34.out (by omega)];decide),if_neg (by rw [h60.out (by omega)];decide)]
    subst hrn
    have u0:wr.cell? ⟨B2,0,none⟩=some (.string ⟨#[]⟩):=by have:=cell_of_row wr _ 0 _ _ _ h2r.out;simpa using this
    have u1:wr.cell? ⟨B2,1,none⟩=some (.bool false):=by have:=cell_of_row wr _ 1 _ _ _ h2r.out;simpa using this
    have u2:wr.cell? ⟨B2,2,none⟩=some (.string ⟨#[]⟩):=by have:=cell_of_row wr _ 2 _ _ _ h2r.out;simpa using this
    have f0:=blk_frozen h2r.out 0
    have f1:=blk_frozen h2r.out 1
    have f2:=blk_frozen h2r.out 2
    go_wp2
    obtain ⟨W3,hW3⟩:∃W3,W3=((wr.setCell ⟨B2,0,none⟩ (Value.string ⟨#[]⟩)).setCell ⟨B2,1,none⟩ (Value.bool false)).setCell ⟨B2,2,none⟩ (Value.string ⟨#[]⟩):=⟨_,rfl⟩
    rw [←hW3]
    have h3:W3.heap[B2]? =some (.cells #[.string ⟨#[]⟩,.bool false,.string ⟨#[]⟩] 34 (0,0)):=by
     rw [hW3];exact blk_put (blk_put (blk_put h2r.out 0 _ rfl) 1 _ rfl) 2 _ rfl
    have HB3:Aside0 (Below w.heap.size w W3):=⟨by rw [hW3];exact below_set (below_set (below_set hB.out HB2.out) HB2.out) HB2.out⟩
    clear u0 u1 u2 f0 f1 f2 hW3
    have u0:W3.cell? ⟨B2,0,none⟩=some (.string ⟨#[]⟩):=by have:=cell_of_row W3 _ 0 _ _ _ h3;simpa using this
    have u1:W3.cell? ⟨B2,1,none⟩=some (.bool false):=by have:=cell_of_row W3 _ 1 _ _ _ h3;simpa using this
    have u2:W3.cell? ⟨B2,2,none⟩=some (.string ⟨#[]⟩):=by have:=cell_of_row W3 _ 2 _ _ _ h3;simpa using this
    refine bodyPost_ret (v:= .tuple #[useV none,.bool false]) ?res rfl ⟨rfl,HB3.out⟩
    case res=>
     unfold results
     rw [show Tryz.f42.results= #[.cell 2 34,.tmp 3] from rfl]
     go_simp
     first|done|rfl
theorem row_C {w:World}{g:Nat}{ys:List ByteArray}{cur:Array Value}{t:TypeId}{rest:List Value}(h:w.heap[g]? =some (.cells cur t (0,0)))(hc:cur.toList=ys.map Value.string++rest)(hl:ys.length≤9223372036854775807):Kd.C Kd.string w (some ⟨g,0,none⟩) ys.length ys:=by
 refine ⟨rfl,hl,fun hn=>⟨_,rfl,fun j p hj=>⟨[.string p],rfl,rfl,fun i u hu=> ?_⟩⟩⟩
 cases i with
 |zero=>
  obtain rfl:Value.string p=u:=by simpa using hu
  have h1:=cell_of_row w g j _ _ _ h
  have e:((⟨g,0,none⟩:Addr).add (j*Kd.string.sz+0))=⟨g,j,none⟩:=by
   show (⟨g,0,none⟩:Addr).add (j*1+0)=_
   rw [Nat.mul_one,Nat.add_zero,add_plain]
  have hjl:=(List.getElem?_eq_some_iff.1 hj).1
  rw [e,h1,←Array.getElem?_toList,hc,List.getElem?_append_left (by rw [List.length_map];exact hjl),List.getElem?_map,hj]
  rfl
 |succ i=>simp at hu
theorem below_cells {base:Nat}{w0 w:World}{g:Nat}(h:Below base w0 w)(hg:base≤g)(o:Nat)(vs:List Value):Below base w0 (w.setCells g o vs):=by
 obtain ⟨s1,s2,s3,s4⟩:=setCells_same g vs o w
 exact ⟨s1.trans h.os,s2.trans h.tape,s3.trans h.output,by rw [s4];exact h.size,fun k hk=>(setCells_far vs o k (by omega)).trans (h.block k hk)⟩
theorem ins_any (xs:List ByteArray)(x:ByteArray)(v:Value)(base vb:Nat)(w:World)(HO:w.ownsRow base 9 1 v xs.length (xs.map Value.string))(hvb:w.heap[vb]? =some (.cells #[.string x] 9 (0,0)))(hne:v.ownBlock≠some vb)(hl:xs.length≤1000)(hbase:base≤w.heap.size):
 Calls Tryz.prog 77 #[v,.int .i64 0,.slice (some ⟨vb,0,none⟩) 1 1] w fun e w'=>∃A c,e= .returned (.slice A (xs.length+1) c)∧xs.length+1≤c∧Kd.C Kd.string w' A (xs.length+1) (x::xs)∧Below base w w':=by
 have hvs:∀j v,([Value.string x]:List Value)[j]? =some v→w.cell? ⟨vb,0+j,none⟩=some v:=fun j u hj=>by
  cases j with
  |zero=>obtain rfl:Value.string x=u:=by simpa using hj
         have:=cell_of_row w vb 0 _ _ _ hvb;simpa using this
  |succ j=>simp at hj
 have h1v:∀v∈([Value.string x]:List Value),v.oneCell'=true:=fun u hu=>by rw [List.mem_singleton.1 hu];rfl
 have h1c:∀v∈xs.map Value.string,v.oneCell'=true:=fun u hu=>by obtain ⟨y,_,rfl⟩:=List.mem_map.1 hu;rfl
 rcases HO.2 with ⟨rfl,h0⟩|⟨g,cap,cur,rfl,hg,hcur,hnc,hcm,hcs,htk⟩
 · obtain rfl:xs=[]:=List.length_eq_zero_iff.1 h0
   have H:=Any2.slices_Insert_string_end_grow Tryz.laysI22 none 0 0 vb 0 1 1 [] [Value.string x] w (by omega) (Nat.le_refl _) (by omega) (by omega) rfl rfl (fun _=>rfl) (fun a ha=>by cases ha) hvs h1v
   refine Calls.mono (show Calls Tryz.prog 77 #[.slice none 0 0,.int .i64 0,.slice (some ⟨vb,0,none⟩) 1 1] w _ from H) ?_
   rintro e w' ⟨rfl,rfl⟩
   refine ⟨_,_,rfl,grownCap_ge _ _ _ _,row_C (ys:=[x]) (blk_new _ _) (rest:=_) (by simp;rfl) (by simp),?_⟩
   exact ⟨rfl,rfl,rfl,by simp,fun k hk=>Below.heap_alloc w.drew _ k (by show k<w.heap.size;omega)⟩
 · have hgw:=blk_lt hcur
   have hgv:g≠vb:=fun e=>hne (by simp [Value.ownBlock,e])
   have hbr:Below base w w:=Below.refl _ _
   rw [Nat.mul_one] at hcs htk
   have hcl:(xs.map Value.string).length=xs.length:=List.length_map _
   have hcc:∀j v,(xs.map Value.string)[j]? =some v→w.cell? ⟨g,0+j,none⟩=some v:=fun j u hj=>by
    have h1:=cell_of_row w g j _ _ _ hcur
    have hjl:=(List.getElem?_eq_some_iff.1 hj).1
    rw [List.length_map] at hjl
    rw [Nat.zero_add,h1,←Array.getElem?_toList]
    rw [←htk,List.getElem?_take,if_pos hjl] at hj
    exact hj
   by_cases hn:xs.length=0
   · obtain rfl:xs=[]:=List.length_eq_zero_iff.1 hn
     by_cases hcap:1≤cap
     · have H:=Any2.slices_Insert_string_end_room Tryz.laysI22 g 0 0 cap vb 0 1 1 [Value.string x] w (by omega) (by omega) (by simp only [maxLen] at hcm;omega) rfl
        (fun j hj=>by rw [cell_of_row w g _ _ _ _ hcur,Array.getElem?_eq_getElem (by omega)];rfl) (fun j _=>blk_frozen hcur _) hvs h1v
       refine Calls.mono (show Calls Tryz.prog 77 #[.slice (some ⟨g,0,none⟩) 0 cap,.int .i64 0,.slice (some ⟨vb,0,none⟩) 1 1] w _ from H) ?_
       rintro e w' ⟨rfl,rfl⟩
       obtain ⟨cur',h1,h2,h3⟩:=setCells_row [Value.string x] 0 w cur hcur (by simp;omega)
       exact ⟨_,_,rfl,by omega,row_C (ys:=[x]) h1 (rest:=_) (by rw [h3];simp;rfl) (by simp),below_cells hbr hg _ _⟩
     · have H:=Any2.slices_Insert_string_end_grow Tryz.laysI22 (some ⟨g,0,none⟩) 0 cap vb 0 1 1 [] [Value.string x] w (by omega) (by omega) (by omega) (by omega) rfl rfl (fun h=>by cases h) (fun a ha j v hj=>by simp at hj) hvs h1v
       refine Calls.mono (show Calls Tryz.prog 77 #[.slice (some ⟨g,0,none⟩) 0 cap,.int .i64 0,.slice (some ⟨vb,0,none⟩) 1 1] w _ from H) ?_
       rintro e w' ⟨rfl,rfl⟩
       refine ⟨_,_,rfl,grownCap_ge _ _ _ _,row_C (ys:=[x]) (blk_new _ _) (rest:=_) (by simp;rfl) (by simp),?_⟩
       exact ⟨rfl,rfl,rfl,by simp,fun k hk=>Below.heap_alloc w.drew _ k (by show k<w.heap.size;omega)⟩
   · by_cases hcap:xs.length+1≤cap
     · have H:=Any2.slices_Insert_string_shift Tryz.laysI22 g 0 xs.length cap 0 vb 0 1 1 (xs.map Value.string) [Value.string x] w (by omega) (by omega) hcap (by simp only [maxLen] at hcm;omega) (Ne.symm hgv) hcl rfl hcc
        (fun j hj=>by rw [cell_of_row w g _ _ _ _ hcur,Array.getElem?_eq_getElem (by omega)];rfl) (fun j _=>blk_frozen hcur _) hvs h1c h1v 9 9 1 cap (by simp [World.shape?,hvb]) (by simp [World.shape?,hcur,hcs]) (by omega) (blk_frozen hvb _) (blk_frozen hvb _)
       refine Calls.mono (show Calls Tryz.prog 77 #[.slice (some ⟨g,0,none⟩) xs.length cap,.int .i64 0,.slice (some ⟨vb,0,none⟩) 1 1] w _ from H) ?_
       rintro e w' ⟨rfl,rfl⟩
       obtain ⟨c1,h1,h2,h3⟩:=setCells_row (xs.map Value.string) 1 w.drew cur hcur (by rw [hcl];omega)
       obtain ⟨c2,h4,h5,h6⟩:=setCells_row [Value.string x] 0 (w.drew.setCells g 1 (xs.map Value.string)) c1 h1 (by simp;omega)
       refine ⟨_,_,rfl,hcap,row_C (ys:=x::xs) h4 (rest:=cur.toList.drop (1+xs.length)) ?_ (by simp;omega),below_cells (below_cells (below_drew1 hbr) hg _ _) hg _ _⟩
       · have hlen:(cur.toList.take 1).length=1:=by rw [List.length_take,Array.length_toList,hcs];omega
         rw [h6,h3,hcl]
         simp only [List.take_zero,List.nil_append,List.length_singleton,Nat.zero_add]
         rw [List.append_assoc,List.drop_append_of_le_length (by omega),List.drop_of_length_le (by omega),List.nil_append]
         simp
     · have H:=Any2.slices_Insert_string_grow Tryz.laysI22 g 0 xs.length cap 0 vb 0 1 1 (xs.map Value.string) [Value.string x] w (by omega) (by omega) hnc (by omega) (by omega) hcl rfl hcc hvs h1c h1v
       refine Calls.mono (show Calls Tryz.prog 77 #[.slice (some ⟨g,0,none⟩) xs.length cap,.int .i64 0,.slice (some ⟨vb,0,none⟩) 1 1] w _ from H) ?_
       rintro e w' ⟨rfl,rfl⟩
       have hge:=grownCap_ge w (xs.length+1) cap (Tryz.laysI22_ren.t 9)
       generalize grownCap w (xs.length+1) cap (Tryz.laysI22_ren.t 9)=gc at *
       have hZ:(((xs.map Value.string).take 0).toArray++Builtin.zeroCells (Value.string ⟨#[]⟩).cells (xs.length+1-0)++Builtin.zeroCells (Value.string ⟨#[]⟩).cells (gc-(xs.length+1))).size=gc:=by
        have hz:∀k,(Builtin.zeroCells (Value.string ⟨#[]⟩).cells k).size=k:=fun k=>by
         rw [size_zeroCells];exact Nat.mul_one k
        simp only [Array.size_append,hz]
        simp;omega
       generalize (((xs.map Value.string).take 0).toArray++Builtin.zeroCells (Value.string ⟨#[]⟩).cells (xs.length+1-0)++Builtin.zeroCells (Value.string ⟨#[]⟩).cells (gc-(xs.length+1)))=Z at *
       obtain ⟨c1,h1,h2,h3⟩:=setCells_row [Value.string x] 0 (w.alloc (.cells Z (Tryz.laysI22_ren.t 9))).drew Z (blk_new w _) (by simp;omega)
       obtain ⟨c2,h4,h5,h6⟩:=setCells_row (xs.map Value.string) 1 ((w.alloc (.cells Z (Tryz.laysI22_ren.t 9))).drew.setCells w.heap.size 0 [Value.string x]).drew c1 h1 (by rw [hcl];omega)
       have hB0:Below base w (w.alloc (.cells Z (Tryz.laysI22_ren.t 9))).drew:=⟨rfl,rfl,rfl,by simp,fun k hk=>Below.heap_alloc w _ k (by omega)⟩
       refine ⟨_,_,rfl,hge,row_C (ys:=x::xs) h4 (rest:=c1.toList.drop (1+xs.length)) ?_ (by simp;omega),below_cells (below_drew1 (below_cells hB0 hbase _ _)) hbase _ _⟩
       rw [h6,h3,hcl]
       simp
end Go.Proofs.YtolaiebjmhieiaaGreatDoor.OScan
end
section
namespace Go.Proofs.YtolaiebjmhieiaaGreatDoor.OJoin
open Go.RowKit YtolaiebjmhieiaaGreatDoorW.PrintWords YtolaiebjmhieiaaGreatDoorW.PrintLast YtolaiebjmhieiaaGreatDoorW.PrintMore
attribute [local go_sem] max2_int min2_int max_two min_two max_three min_three max_four min_four
def bytealg_LastIndexByteString.l0:Nat→ByteArray→Int→Int→Option (Int)
 |0,_,_,_=>none
 |k+1,x0,x1,x5=>if x5≥0 then (if 0≤x5 then (if x5<(x0.size:Int) then (if (bt x0 x5)=x1 then (some x5) else (bytealg_LastIndexByteString.l0 k x0 x1 (wrap64 (x5-1)))) else (none)) else (none)) else (some (-1))
def bytealg_LastIndexByteString.f (k:Nat)(a0:ByteArray)(a1:Int):Option (Int):=bytealg_LastIndexByteString.l0 k a0 a1 (wrap64 ((a0.size:Int)-1))
theorem bytealg_LastIndexByteString.mono_l:∀k,(∀y0 y1 y2,LeO (bytealg_LastIndexByteString.l0 k y0 y1 y2) (bytealg_LastIndexByteString.l0 (k+1) y0 y1 y2))
 |0=>fun _ _ _ r h=>by simp [bytealg_LastIndexByteString.l0] at h
 |k+1=>by
  have ih0:=bytealg_LastIndexByteString.mono_l k
  · intro y0 y1 y2
    unfold bytealg_LastIndexByteString.l0
    exact zm
theorem bytealg_LastIndexByteString.mono:∀a0 a1 k,LeO (bytealg_LastIndexByteString.f k a0 a1) (bytealg_LastIndexByteString.f (k+1) a0 a1):=by
 intro a0 a1 k
 have ih0:=bytealg_LastIndexByteString.mono_l k
 unfold bytealg_LastIndexByteString.f
 exact zm
theorem bytealg_LastIndexByteString.calls (k:Nat)(a0:ByteArray)(a1:Int)(r:Int)(w:World)(h:bytealg_LastIndexByteString.f k a0 a1=some r):
 Calls Tryz.prog 136 #[.string a0,.int .u8 a1] w fun e w'=>e= .returned (.int .i64 r)∧Drawn0 w w':=by
 have H:=h
 clear h
 unfold bytealg_LastIndexByteString.f at H
 have H':=z0 H
 clear H
 go_enter Tryz.func136,Tryz.ntmps136
 go_wp2
 go_loopg [5] k (fun kq v5 w'=>∃(x5_1:Int),v5= .int .i64 x5_1∧Aside0 (bytealg_LastIndexByteString.l0 kq a0 a1 x5_1=some r)∧Aside0 (kq≤k)∧Drawn0 w w')
 case atStart=>exact ⟨(wrap64 ((a0.size:Int)-1)),zr,H',⟨Nat.le_refl _⟩,zq⟩
 case round=>
  clear H'
  (try clear c1);(try clear p2)
  obtain ⟨x5_1,rfl,HA,HK1,⟨m1,rfl⟩⟩:=hrel
  cases gk with
  |zero=>exact absurd HA.out (by simp [bytealg_LastIndexByteString.l0])
  |succ k1=>
   have H:=HA.out
   clear HA
   simp only [bytealg_LastIndexByteString.l0] at H
   replace H:=zg H
   rcases H with ⟨c3b0,H⟩|⟨c3b0,H⟩
   · replace H:=zdn H
     obtain ⟨c4b0,H⟩:=H
     replace H:=zdn H
     obtain ⟨c5b0,H⟩:=H
     replace H:=ze H
     rcases H with ⟨c7b0,c7b1,H⟩|⟨c7b0,c7b1,H⟩
     · obtain rfl:=Option.some.inj H
       obtain ⟨p6,q6,hx6⟩:=zb a0 x5_1
       go_wp2
       go_ret
       exact ⟨zr,zq⟩
     · have H':=z0 H
       clear H
       obtain ⟨p6,q6,hx6⟩:=zb a0 x5_1
       go_wp2
       go_roundg k1
       case measure=>have:=HK1.out;omega
       case rel=>exact ⟨(wrap64 (x5_1-1)),zr,H',⟨by have:=HK1.out;omega⟩,zq⟩
   · obtain rfl:=Option.some.inj H
     go_wp2
     go_ret
     exact ⟨zr,zq⟩
def strings_LastIndexByte.f (k:Nat)(a0:ByteArray)(a1:Int):Option (Int):=(bytealg_LastIndexByteString.f k a0 a1).bind fun t101=>(some t101)
theorem strings_LastIndexByte.mono:∀a0 a1 k,LeO (strings_LastIndexByte.f k a0 a1) (strings_LastIndexByte.f (k+1) a0 a1):=by
 intro a0 a1 k
 unfold strings_LastIndexByte.f
 have ih5:= @bytealg_LastIndexByteString.mono
 exact zm
theorem strings_LastIndexByte.calls (k:Nat)(a0:ByteArray)(a1:Int)(r:Int)(w:World)(h:strings_LastIndexByte.f k a0 a1=some r):
 Calls Tryz.prog 78 #[.string a0,.int .u8 a1] w fun e w'=>e= .returned (.int .i64 r)∧Drawn0 w w':=by
 have H:=h
 clear h
 unfold strings_LastIndexByte.f at H
 replace H:=zo H
 obtain ⟨t101,A3,H⟩:=H
 (try dsimp only at H)
 obtain rfl:=Option.some.inj H
 go_enter Tryz.func78,Tryz.ntmps78
 go_wp2_with (first|(refine zc 7 rfl Tryz.func136 #[.string a0,.int .u8 a1] ?_;refine za (bytealg_LastIndexByteString.calls k a0 a1 t101 _ A3.out) fun nd=> ?_))
 go_ret
 exact ⟨zr,zq⟩
def stringslite_HasPrefix.f (a0:ByteArray)(a1:ByteArray):Option (Bool):=if (a0.size:Int)≥(a1.size:Int) then (if 0≤(a1.size:Int) then (if (a1.size:Int)≤(a0.size:Int) then (some ((a0.extract 0 ((a1.size:Int):Int).toNat).toList==a1.toList)) else (none)) else (none)) else (some false)
theorem stringslite_HasPrefix.calls (a0:ByteArray)(a1:ByteArray)(r:Bool)(w:World)(h:stringslite_HasPrefix.f a0 a1=some r):
 Calls Tryz.prog 131 #[.string a0,.string a1] w fun e w'=>e= .returned (.bool r)∧Drawn0 w w':=by
 have H:=h
 clear h
 unfold stringslite_HasPrefix.f at H
 by_cases c3:(a0.size:Int)≥(a1.size:Int)
 · rw [if_pos c3] at H
   have c3b0:decide ((a1.size:Int)≤(a0.size:Int))=true:=decide_eq_true c3
   have c3b1:decide (a1.size≤a0.size)=true:=decide_eq_true (Int.ofNat_le.mp c3)
   clear c3
   replace H:=zyn H
   obtain ⟨c4b0,c4b1,H⟩:=H
   replace H:=zyn H
   obtain ⟨c5b0,c5b1,H⟩:=H
   obtain rfl:=Option.some.inj H
   go_enter Tryz.func131,Tryz.ntmps131
   go_wp2
   go_ret
   exact ⟨zr,zq⟩
 · rw [if_neg c3] at H
   have c3b0:decide ((a1.size:Int)≤(a0.size:Int))=false:=decide_eq_false c3
   have c3b1:decide (a1.size≤a0.size)=false:=decide_eq_false (fun h=>c3 (Int.ofNat_le.mpr h))
   clear c3
   obtain rfl:=Option.some.inj H
   go_enter Tryz.func131,Tryz.ntmps131
   go_wp2
   go_ret
   exact ⟨zr,zq⟩
def stringslite_CutPrefix.f (a0:ByteArray)(a1:ByteArray):Option (ByteArray × Bool):=(stringslite_HasPrefix.f a0 a1).bind fun t102=>(if t102=true then (if 0≤(a1.size:Int) then (if (a1.size:Int)≤(a0.size:Int) then (some (a0.extract ((a1.size:Int):Int).toNat a0.size,true)) else (none)) else (none)) else (some (a0,false)))
theorem stringslite_CutPrefix.calls (a0:ByteArray)(a1:ByteArray)(r1:ByteArray)(r2:Bool)(w:World)(h:stringslite_CutPrefix.f a0 a1=some (r1,r2)):
 Calls Tryz.prog 172 #[.string a0,.string a1] w fun e w'=>e= .returned (.tuple #[.string r1,.bool r2])∧Drawn0 w w':=by
 have H:=h
 clear h
 unfold stringslite_CutPrefix.f at H
 replace H:=zo H
 obtain ⟨t102,A3,H⟩:=H
 (try dsimp only at H)
 by_cases c4:t102=true
 · subst c4
   rw [if_pos rfl] at H
   replace H:=zyn H
   obtain ⟨c5b0,c5b1,H⟩:=H
   replace H:=zyn H
   obtain ⟨c6b0,c6b1,H⟩:=H
   simp only [Option.some.injEq,Prod.mk.injEq] at H
   obtain ⟨rfl,rfl⟩:=H
   go_enter Tryz.func172,Tryz.ntmps172
   go_wp2_with (first|(refine zc 8 rfl Tryz.func131 #[.string a0,.string a1] ?_;refine za (stringslite_HasPrefix.calls a0 a1 true _ A3.out) fun nd=> ?_))
   go_ret2
   exact ⟨zr,zq⟩
 · replace c4:=Bool.eq_false_iff.mpr c4
   subst c4
   rw [if_neg nofun] at H
   simp only [Option.some.injEq,Prod.mk.injEq] at H
   obtain ⟨rfl,rfl⟩:=H
   go_enter Tryz.func172,Tryz.ntmps172
   go_wp2_with (first|(refine zc 8 rfl Tryz.func131 #[.string a0,.string a1] ?_;refine za (stringslite_HasPrefix.calls a0 a1 false _ A3.out) fun nd=> ?_))
   go_ret2
   exact ⟨zr,zq⟩
def strings_CutPrefix.f (a0:ByteArray)(a1:ByteArray):Option (ByteArray × Bool):=(stringslite_CutPrefix.f a0 a1).bind fun bt103=>(some (bt103.1,bt103.2))
theorem strings_CutPrefix.calls (a0:ByteArray)(a1:ByteArray)(r1:ByteArray)(r2:Bool)(w:World)(h:strings_CutPrefix.f a0 a1=some (r1,r2)):
 Calls Tryz.prog 137 #[.string a0,.string a1] w fun e w'=>e= .returned (.tuple #[.string r1,.bool r2])∧Drawn0 w w':=by
 have H:=h
 clear h
 unfold strings_CutPrefix.f at H
 replace H:=zo H
 obtain ⟨⟨t103,t104⟩,A3,H⟩:=H
 (try dsimp only at H)
 simp only [Option.some.injEq,Prod.mk.injEq] at H
 obtain ⟨rfl,rfl⟩:=H
 go_enter Tryz.func137,Tryz.ntmps137
 go_wp2_with (first|(refine zc 8 rfl Tryz.func172 #[.string a0,.string a1] ?_;refine za (stringslite_CutPrefix.calls a0 a1 t103 t104 _ A3.out) fun nd=> ?_))
 go_ret2
 exact ⟨zr,zq⟩
def head_joined.l0:Nat→ByteArray→ByteArray→Option (ByteArray × Bool)
 |0,_,_=>none
 |k+1,x0,x1=>(strings_CutPrefix.f x1 (⟨#[46,47]⟩:ByteArray)).bind fun bt105=>(if bt105.2=true then (head_joined.l0 k x0 bt105.1) else ((strings_CutPrefix.f x1 (⟨#[46,46,47]⟩:ByteArray)).bind fun bt107=>(if bt107.2=true then (if x0.toList=([]:List UInt8) then (some ((⟨#[]⟩:ByteArray),false)) else ((strings_LastIndexByte.f k x0 47).bind fun t109=>(if 0≤(mx 0 t109) then (if (mx 0 t109)≤(x0.size:Int) then (head_joined.l0 k (x0.extract 0 ((mx 0 t109):Int).toNat) bt107.1) else (none)) else (none)))) else (if x0.toList=([]:List UInt8) then (some (x1,true)) else (if x0.size+1≤9223372036854775807 then (if (x0++(⟨#[47]⟩:ByteArray)).size+x1.size≤9223372036854775807 then (some ((x0++(⟨#[47]⟩:ByteArray))++x1,true)) else (none)) else (none))))))
def head_joined.f (k:Nat)(a0:ByteArray)(a1:ByteArray):Option (ByteArray × Bool):=head_joined.l0 k a0 a1
theorem head_joined.calls (k:Nat)(a0:ByteArray)(a1:ByteArray)(r1:ByteArray)(r2:Bool)(w:World)(h:head_joined.f k a0 a1=some (r1,r2)):
 Calls Tryz.prog 79 #[.string a0,.string a1] w fun e w'=>e= .returned (.tuple #[.string r1,.bool r2])∧Below w.heap.size w w':=by
 have HB:=z0 (Below.refl w.heap.size w)
 have H:=h
 clear h
 unfold head_joined.f at H
 have H':=z0 H
 clear H
 go_enter Tryz.func79,Tryz.ntmps79
 go_wp2
 go_loopg [0,1] k (fun kq v0 v1 w'=>∃(x0_1:ByteArray) (x1_1:ByteArray),v0= .string x0_1∧v1= .string x1_1∧Aside0 (head_joined.l0 kq x0_1 x1_1=some (r1,r2))∧Aside0 (kq≤k)∧Aside0 (Below w.heap.size w w'))
 case atStart=>exact ⟨(a0),(a1),zr,zr,H',⟨Nat.le_refl _⟩,⟨zw⟩⟩
 case round=>
  clear H'
  (try clear p2)
  obtain ⟨x0_1,x1_1,rfl,rfl,HA,HK1,HB⟩:=hrel
  cases gk with
  |zero=>exact absurd HA.out (by simp [head_joined.l0])
  |succ k1=>
   have H:=HA.out
   clear HA
   simp only [head_joined.l0] at H
   replace H:=zo H
   obtain ⟨⟨t105,t106⟩,A3,H⟩:=H
   (try dsimp only at H)
   by_cases c4:t106=true
   · subst c4
     rw [if_pos rfl] at H
     have H':=z0 H
     clear H
     go_wp2_with (first|(refine zc 12 rfl Tryz.func137 #[.string x1_1,.string (⟨#[46,47]⟩:ByteArray)] ?_;refine za (strings_CutPrefix.calls x1_1 (⟨#[46,47]⟩:ByteArray) t105 true _ A3.out) fun nd=> ?_))
     go_roundg k1
     case measure=>have:=HK1.out;omega
     case rel=>exact ⟨(x0_1),(t105),zr,zr,H',⟨by have:=HK1.out;omega⟩,⟨zw⟩⟩
   · replace c4:=Bool.eq_false_iff.mpr c4
     subst c4
     rw [if_neg nofun] at H
     replace H:=zo H
     obtain ⟨⟨t107,t108⟩,A5,H⟩:=H
     (try dsimp only at H)
     by_cases c6:t108=true
     · subst c6
       rw [if_pos rfl] at H
       replace H:=zE H
       rcases H with ⟨c7b0,c7b1,H⟩|⟨c7b0,c7b1,H⟩
       · simp only [Option.some.injEq,Prod.mk.injEq] at H
         obtain ⟨rfl,rfl⟩:=H
         go_wp2_with (first|(refine zc 12 rfl Tryz.func137 #[.string x1_1,.string (⟨#[46,47]⟩:ByteArray)] ?_;refine za (strings_CutPrefix.calls x1_1 (⟨#[46,47]⟩:ByteArray) t105 false _ A3.out) fun nd=> ?_)|(refine zc 19 rfl Tryz.func137 #[.string x1_1,.string (⟨#[46,46,47]⟩:ByteArray)] ?_;refine za (strings_CutPrefix.calls x1_1 (⟨#[46,46,47]⟩:ByteArray) t107 true _ A5.out) fun nd=> ?_))
         go_ret2
         exact ⟨zv,zw⟩
       · replace H:=zo H
         obtain ⟨t109,A8,H⟩:=H
         (try dsimp only at H)
         generalize hji9:(mx 0 t109)=ji9 at H
         (try rw [hji9] at A3)
         (try rw [hji9] at A5)
         (try rw [hji9] at A8)
         (try (have hji9l:0≤ji9:=by (rw [←hji9];unfold mx;(repeat' split)<;>omega)))
         (try (have hji9m:0≤ji9:=by omega))
         have hji9_:(if 0<t109 then t109 else 0)=ji9:=hji9
         replace H:=zyn H
         obtain ⟨c10b0,c10b1,H⟩:=H
         replace H:=zyn H
         obtain ⟨c11b0,c11b1,H⟩:=H
         have H':=z0 H
         clear H
         go_wp2_with (first|(refine zc 12 rfl Tryz.func137 #[.string x1_1,.string (⟨#[46,47]⟩:ByteArray)] ?_;refine za (strings_CutPrefix.calls x1_1 (⟨#[46,47]⟩:ByteArray) t105 false _ A3.out) fun nd=> ?_)|(refine zc 19 rfl Tryz.func137 #[.string x1_1,.string (⟨#[46,46,47]⟩:ByteArray)] ?_;refine za (strings_CutPrefix.calls x1_1 (⟨#[46,46,47]⟩:ByteArray) t107 true _ A5.out) fun nd=> ?_)|(refine zc 28 rfl Tryz.func78 #[.string x0_1,.int .u8 47] ?_;refine za (strings_LastIndexByte.calls k1 x0_1 47 t109 _ A8.out) fun nd=> ?_))
         go_roundg k1
         case measure=>have:=HK1.out;omega
         case rel=>exact ⟨(x0_1.extract 0 ((ji9):Int).toNat),(t107),(by first|rfl|(simp;done)|(simp only [←hji9]<;>(first|rfl|simp))|(simp [*];done)),zr,H',⟨by have:=HK1.out;omega⟩,⟨zw⟩⟩
     · replace c6:=Bool.eq_false_iff.mpr c6
       subst c6
       rw [if_neg nofun] at H
       replace H:=zE H
       rcases H with ⟨c12b0,c12b1,H⟩|⟨c12b0,c12b1,H⟩
       · simp only [Option.some.injEq,Prod.mk.injEq] at H
         obtain ⟨rfl,rfl⟩:=H
         go_wp2_with (first|(refine zc 12 rfl Tryz.func137 #[.string x1_1,.string (⟨#[46,47]⟩:ByteArray)] ?_;refine za (strings_CutPrefix.calls x1_1 (⟨#[46,47]⟩:ByteArray) t105 false _ A3.out) fun nd=> ?_)|(refine zc 19 rfl Tryz.func137 #[.string x1_1,.string (⟨#[46,46,47]⟩:ByteArray)] ?_;refine za (strings_CutPrefix.calls x1_1 (⟨#[46,46,47]⟩:ByteArray) t107 false _ A5.out) fun nd=> ?_))
         go_ret2
         exact ⟨zv,zw⟩
       · replace H:=zxn H
         obtain ⟨c13,c13b0,c13b1,H⟩:=H
         try have c13b2:(9223372036854775807<x0_1.size+1)=False:=eq_false (Nat.not_lt.2 c13)
         replace H:=zxn H
         obtain ⟨c14,c14b0,c14b1,H⟩:=H
         try have c14b2:(9223372036854775807<(x0_1++(⟨#[47]⟩:ByteArray)).size+x1_1.size)=False:=eq_false (Nat.not_lt.2 c14)
         simp only [Option.some.injEq,Prod.mk.injEq] at H
         obtain ⟨rfl,rfl⟩:=H
         go_wp2_with (first|(refine zc 12 rfl Tryz.func137 #[.string x1_1,.string (⟨#[46,47]⟩:ByteArray)] ?_;refine za (strings_CutPrefix.calls x1_1 (⟨#[46,47]⟩:ByteArray) t105 false _ A3.out) fun nd=> ?_)|(refine zc 19 rfl Tryz.func137 #[.string x1_1,.string (⟨#[46,46,47]⟩:ByteArray)] ?_;refine za (strings_CutPrefix.calls x1_1 (⟨#[46,46,47]⟩:ByteArray) t107 false _ A5.out) fun nd=> ?_))
         go_ret2
         exact ⟨zv,zw⟩
end Go.Proofs.YtolaiebjmhieiaaGreatDoor.OJoin
end
section
namespace Go.Proofs.YtolaiebjmhieiaaGreatDoor.OScan
open Go.RowKit YtolaiebjmhieiaaGreatDoorW.PrintWords YtolaiebjmhieiaaGreatDoorW.PrintLast YtolaiebjmhieiaaGreatDoorW.PrintMore
def JoinOf (d name:ByteArray)(r:ByteArray × Bool):Prop:=∃k,OJoin.head_joined.f k d name=some r
def findGo:AL→List (ByteArray × Bool)→ByteArray
 |_,[]=>⟨#[]⟩
 |m,j::l=>if j.2=true∧(alGet m j.1).isSome=true then j.1 else findGo m l
theorem clone_any (xs:List ByteArray)(Ap:Option Addr)(c:Nat)(w:World)(HC:Kd.C Kd.string w Ap xs.length xs)(hA:Ap=none∨∃b o,Ap=some ⟨b,o,none⟩)(hl:xs.length≤1000):
 Calls Tryz.prog 76 #[.slice Ap xs.length c] w fun e w'=>∃v',e= .returned v'∧w'.ownsRow w.heap.size 9 1 v' xs.length (xs.map Value.string)∧Below w.heap.size w w':=by
 rcases hA with rfl|⟨b,o,rfl⟩
 · have h0:xs=[]:=by
    cases xs with
    |nil=>rfl
    |cons x xs=>
     obtain ⟨ad,e,_⟩:=str_at HC 0 (by simp) x rfl
     cases e
   subst h0
   exact (Tryz.slices_Clone_string_nil 0 c w).mono fun e w' ⟨he,hw⟩=>⟨_,he,⟨rfl,.inl ⟨rfl,rfl⟩⟩,by rw [hw];exact Below.refl _ _⟩
 · have H:=Tryz.slices_Clone_string b o xs.length c xs w (Nat.le_refl _) (by omega) (fun j hj=>by
    obtain ⟨ad,e,hc⟩:=str_at HC j hj (xs.getD j ByteArray.empty) (by simp [List.getD_eq_getElem?_getD,List.getElem?_eq_getElem hj])
    obtain rfl:(⟨b,o,none⟩:Addr)=ad:=by injection e
    rw [Nat.mul_one,Addr.add_lit] at hc
    exact hc)
   rw [List.take_length] at H
   exact H.mono fun e w' ⟨v',h1,h2,_,h4⟩=>⟨v',h1,h2,h4⟩
theorem own_C {w:World}{base n:Nat}{v:Value}{xs:List ByteArray}(hn:n=xs.length)(h:w.ownsRow base 9 1 v n (xs.map Value.string)):∃A c,v= .slice A n c∧n≤c∧Kd.C Kd.string w A n xs:=by
 subst hn
 have hR:=Kd.R_of_own (enc:=Value.string) (h1:=fun _=>rfl) h (ok:=fun _=>True) (fun _ _=>trivial)
 obtain ⟨A,c,rfl⟩:=Kd.R_slice hR
 have:=Kd.R_reads' hR
 exact ⟨A,c,rfl,this.2.1,this.2.2⟩
structure PrjF (w:World)(PB fm cm:Nat)(lk:Int)(pv:Value)(m:AL):Prop where
 hP:w.heap[PB]? =some (.cells #[.map (some fm),pv,.int .i32 lk,.int .u32 0,.map (some cm)] 87 (0,0))
 hm:MapIs w fm m
theorem find_any (m:AL)(lk:Int)(ps:List ByteArray)(from_ name file:ByteArray)(q:Bool)(ld:Int)(kl:Nat)(js:List (ByteArray × Bool))(PB fm cm:Nat)(Ap:Option Addr)(cp:Nat)(w:World)
 (HP:PrjF w PB fm cm lk (.slice Ap ps.length cp) m) (HC:Kd.C Kd.string w Ap ps.length ps) (hA:Ap=none∨∃b o,Ap=some ⟨b,o,none⟩) (hl:ps.length≤900)
 (hld:OJoin.strings_LastIndexByte.f kl from_ 47=some ld) (hl1: -1≤ld) (hl2:ld<from_.size) (hfs:from_.size≤1000000)
 (dirs:List ByteArray) (hdirs:dirs=if q=true then from_.extract 0 (max 0 ld).toNat::ps else ps) (hjl:js.length=dirs.length)
 (hj:∀(i:Nat) (d:ByteArray),dirs[i]? =some d→∃j,js[i]? =some j∧JoinOf d name j):
 Calls Tryz.prog 44 #[.pointer (some ⟨PB,0,none⟩),.string from_,.agg #[.string name,.bool q,.string file]] w fun e w'=>e= .returned (.string (findGo m js))∧Below w.heap.size w w':=by
 have hp1:w.cell? ⟨PB,1,none⟩=some (.slice Ap ps.length cp):=by have:=cell_of_row w PB 1 _ _ _ HP.hP;simpa using this
 have hB0:=below_alloc (Below.refl w.heap.size w) (Obj.cells #[Value.string name,Value.bool q,Value.string file] 34)
 have H76:=clone_any ps Ap cp (w.alloc (Obj.cells #[Value.string name,Value.bool q,Value.string file] 34)) (Kd.C_below HC hB0) hA (by omega)
 obtain ⟨n,hn⟩:∃n,n=ps.length:=⟨_,rfl⟩
 rw [←hn] at hp1 H76
 have HN:=z0 hn
 have HPA:=z0 HP
 have HB0:=z0 hB0
 have HJ:=z0 hj
 have HLD:=z0 hld
 have hBX:(w.alloc (Obj.cells #[Value.string name,Value.bool q,Value.string file] 34)).heap[w.heap.size]? =some (.cells #[Value.string name,Value.bool q,Value.string file] 34 (0,0)):=blk_new _ _
 have HBX:=z0 hBX
 have HDI:=z0 hdirs
 have HJL:=z0 hjl
 have HLN:=z0 hl
 have hp1':=(HB0.out.cell (World.block_lt_of_cell? w _ hp1)).trans hp1
 clear hn HP HC hA hB0 hj hld hBX hdirs hjl hl
 cases q with
 |false=>
  go_enter Tryz.func44,Tryz.ntmps44
  go_wp2_with (first|(go_at_call 76;go_loud (refine H76.mono ?_;rintro e w5 ⟨v5,rfl,ho5,hb5⟩;have hbx:=(hb5.block _ (blk_lt HBX.out)).trans HBX.out;have b1:w5.cell? ⟨w.heap.size,1,none⟩=some (.bool false):=(by have:=cell_of_row w5 _ 1 _ _ _ hbx;simpa using this);obtain ⟨A5,c5,rfl,hc5,hC5⟩:=own_C HN.out ho5;have HC5:=z0 hC5;have HB5:=z0 (below_step HB0.out hb5);have HX5:=z0 hbx;clear ho5 hb5 hbx hC5)))
  obtain ⟨W1,hW1⟩:∃W1,W1=w5:=⟨_,rfl⟩
  subst hW1
  have hdd:dirs=ps:=by rw [HDI.out];rfl
  subst hdd
  obtain ⟨nd,hnd⟩:∃nd,nd=n:=⟨_,rfl⟩
  rw [←hnd]
  have HND:Aside0 (nd=dirs.length):=⟨hnd.trans HN.out⟩
  have HDC:Aside0 (Kd.C Kd.string W1 A5 nd dirs):=⟨by rw [hnd];exact HC5.out⟩
  have HB1:=HB5
  have hnb:nd≤1000:=by rw [HND.out];have:=HLN.out;omega
  have hn0:W1.cell? ⟨w.heap.size,0,none⟩=some (.string name):=by have:=cell_of_row W1 _ 0 _ _ _ HX5.out;simpa using this
  clear hnd HC5
  go_loopg [31] nd (fun kq v31 w'=>∃(i:Nat),v31= .int .i64 i∧Aside0 (kq+i=nd)∧Aside0 (findGo m (js.drop i)=findGo m js)∧Aside0 (Below W1.heap.size W1 w'))
  case atStart=>exact ⟨0,rfl,⟨rfl⟩,⟨rfl⟩,⟨Below.refl _ _⟩⟩
  case round=>
   obtain ⟨i,rfl,hki,hF,hB⟩:=hrel
   have hki':=hki.out
   have HBW:Aside0 (Below w.heap.size w wr):=⟨below_step HB1.out hB.out⟩
   cases gk with
   |zero=>
    have hlt:decide ((i:Int)<(nd:Int))=false:=decide_eq_false (by omega)
    go_wp2
    go_ret
    refine ⟨?_,HBW.out⟩
    have:=hF.out
    rw [List.drop_eq_nil_of_le (by rw [HJL.out];have:=HND.out;omega)] at this
    rw [←this];rfl
   |succ g1=>
    have hlt:decide ((i:Int)<(nd:Int))=true:=decide_eq_true (by omega)
    have hii:(0:Int)≤(i:Int):=by omega
    obtain ⟨d,hd⟩:∃d,dirs[i]? =some d:=⟨_,List.getElem?_eq_getElem (by rw [←HND.out];omega)⟩
    obtain ⟨⟨jn,jb⟩,hjs,kj,hjk⟩:=HJ.out i d hd
    obtain ⟨ad,hAd,hx0⟩:=str_at HDC.out i (by omega) d hd
    obtain rfl:=hAd
    replace hx0:=(hB.out.cell (World.block_lt_of_cell? W1 _ hx0)).trans hx0
    rw [Nat.mul_one] at hx0
    have hdr:js.drop i=(jn,jb)::js.drop (i+1):=by
     obtain ⟨hl',he'⟩:=List.getElem?_eq_some_iff.1 hjs
     rw [List.drop_eq_getElem_cons hl',he']
    have hg:=hF.out
    rw [hdr,findGo] at hg
    have HG:=z0 hg
    have n0:=(hB.out.cell (World.block_lt_of_cell? W1 _ hn0)).trans hn0
    have H79:Aside0 (∀W,Calls Tryz.prog 79 #[.string d,.string name] W fun e w'=>e= .returned (.tuple #[.string jn,.bool jb])∧Below W.heap.size W w'):=⟨fun W=>OJoin.head_joined.calls kj d name jn jb W hjk⟩
    clear hd hjs hdr hjk hg
    have HL:Aside0 (∀W,Below w.heap.size w W→W.cell? ⟨PB,0,none⟩=some (.map (some fm))∧(Instr.lookup 75 (.map (some fm)) (.string jn) true).run Tryz.prog W= .ok (.tuple #[(alGet m jn).getD (.string ⟨#[]⟩),.bool (alGet m jn).isSome]) W):=⟨fun W hb=>by
     have h1:w.cell? ⟨PB,0,none⟩=some (.map (some fm)):=by have:=cell_of_row w PB 0 _ _ _ HPA.out.hP;simpa using this
     exact ⟨(hb.cell (World.block_lt_of_cell? w _ h1)).trans h1,(HPA.out.hm.same (hb.block _ HPA.out.hm.lt)).getOk Tryz.underlying75 jn (.string ⟨#[]⟩) (fun _=>rfl)⟩⟩
    cases jb with
    |false=>
     go_wp2_with (go_at_call 79;go_loud (refine (H79.out _).mono ?_;rintro e w9 ⟨rfl,hb9⟩;have HB9:=z0 (below_step hB.out hb9);clear hb9))
     go_roundg g1
     case measure=>omega
     case rel=>exact ⟨i+1,by (try simp),⟨by omega⟩,⟨by rw [←HG.out];simp⟩,HB9⟩
    |true=>
     cases hal:alGet m jn with
     |none=>
      rw [hal] at HL HG
      clear hal
      go_wp2_with (go_at_call 79;go_loud (refine (H79.out _).mono ?_;rintro e w9 ⟨rfl,hb9⟩;have HB9:=z0 (below_step hB.out hb9);obtain ⟨p0,hlk⟩:=HL.out w9 (below_step HB1.out HB9.out);simp only [Option.getD_none,Option.isSome_none] at hlk;clear hb9))
      go_roundg g1
      case measure=>omega
      case rel=>exact ⟨i+1,by (try simp),⟨by omega⟩,⟨by rw [←HG.out];simp⟩,HB9⟩
     |some u=>
      rw [hal] at HL HG
      clear hal
      go_wp2_with (go_at_call 79;go_loud (refine (H79.out _).mono ?_;rintro e w9 ⟨rfl,hb9⟩;have HB9:=z0 (below_step hB.out hb9);obtain ⟨p0,hlk⟩:=HL.out w9 (below_step HB1.out HB9.out);simp only [Option.getD_some,Option.isSome_some] at hlk;clear hb9))
      go_ret
      refine ⟨?_,below_step HB1.out HB9.out⟩
      rw [←HG.out];simp
 |true=>
  have hmx0:(0:Int)≤max 0 ld:=by omega
  have hmx1:max 0 ld≤(from_.size:Int):=by omega
  have H78:Aside0 (∀W,Calls Tryz.prog 78 #[.string from_,.int .u8 47] W fun e w'=>e= .returned (.int .i64 ld)∧Below W.heap.size W w'):=⟨fun W=>(OJoin.strings_LastIndexByte.calls kl from_ 47 ld W HLD.out).mono fun e w' ⟨h1,h2⟩=>⟨h1,h2.below⟩⟩
  have INS:∀(w6:World) {v5:Value} {w5:World},w5.ownsRow (w.alloc (Obj.cells #[Value.string name,Value.bool true,Value.string file] 34)).heap.size 9 1 v5 n (ps.map Value.string)→Below w5.heap.size w5 w6→w.heap.size≤w5.heap.size→Calls Tryz.prog 77 #[v5,.int .i64 0,.slice (some ⟨w6.heap.size,0,none⟩) 1 1] (w6.alloc (Obj.cells #[Value.string (from_.extract 0 (max 0 ld).toNat)] 9)) fun e w'=>∃A c,e= .returned (.slice A (n+1) c)∧n+1≤c∧Kd.C Kd.string w' A (n+1) (from_.extract 0 (max 0 ld).toNat::ps)∧Below (w.alloc (Obj.cells #[Value.string name,Value.bool true,Value.string file] 34)).heap.size (w6.alloc (Obj.cells #[Value.string (from_.extract 0 (max 0 ld).toNat)] 9)) w':=fun w6 v5 w5 ho hb hsz=>by
   have hlt:=own_lt ho
   have hbs:=own_base ho
   rw [HN.out] at ho ⊢
   have ho6:=own_move ho (fun k hk=>hb.block k (hlt k hk))
   have hlt6:∀k,v5.ownBlock=some k→k<w6.heap.size:=own_lt ho6
   have ho7:=own_move (w1:=w6.alloc (Obj.cells #[Value.string (from_.extract 0 (max 0 ld).toNat)] 9)) ho6 (fun k hk=>Below.heap_alloc w6 _ k (hlt6 k hk))
   exact ins_any ps _ v5 _ w6.heap.size _ ho7 (blk_new _ _) (fun e=>by have:=hlt6 _ e;omega) (by have:=HLN.out;omega) (by have:=hb.size;rw [alloc_size,alloc_size];omega)
  obtain ⟨nd,hnd⟩:∃nd,nd=n+1:=⟨_,rfl⟩
  simp only [←hnd] at INS
  have HNN:=z0 hnd
  clear hnd
  go_enter Tryz.func44,Tryz.ntmps44
  go_wp2_with (first|(go_at_call 76;go_loud (refine H76.mono ?_;rintro e w5 ⟨v5,rfl,ho5,hb5⟩;have hbx:=(hb5.block _ (blk_lt HBX.out)).trans HBX.out;have b1:w5.cell? ⟨w.heap.size,1,none⟩=some (.bool true):=(by have:=cell_of_row w5 _ 1 _ _ _ hbx;simpa using this);have HO5:=z0 ho5;have HB5:=z0 (below_step HB0.out hb5);have HX5:=z0 hbx;clear ho5 hb5 hbx))|(go_at_call 78;go_loud (refine (H78.out _).mono ?_;rintro e w6 ⟨rfl,hb6⟩;have HB6:=z0 hb6;have H77:=INS w6 HO5.out hb6 HB5.out.size;clear hb6))|(go_at_call 77;go_loud (refine H77.mono ?_;rintro e w7 ⟨A7,c7,rfl,hc7,hC7,hb7⟩;have HC7:=z0 hC7;have HB7:=z0 hb7;clear hC7 hb7)))
  have hSZ:(w.alloc (Obj.cells #[Value.string name,Value.bool true,Value.string file] 34)).heap.size=w.heap.size+1:=alloc_size _ _
  have hnd:=HNN.out
  have hdd:dirs=from_.extract 0 (max 0 ld).toNat::ps:=by rw [HDI.out];rfl
  have HND:Aside0 (nd=dirs.length):=⟨by rw [hdd,hnd,HN.out];rfl⟩
  have hnb:nd≤1000:=by rw [hnd,HN.out];have:=HLN.out;omega
  obtain ⟨W1,hW1⟩:∃W1,W1=w7:=⟨_,rfl⟩
  subst hW1
  have HDC:Aside0 (Kd.C Kd.string W1 A7 nd dirs):=⟨by rw [hdd];exact HC7.out⟩
  have hb6':=HB6.out
  have hb7':=HB7.out
  have HB1:Aside0 (Below w.heap.size w W1):=⟨(below_alloc (below_step HB5.out hb6') _).trans ⟨hb7'.os,hb7'.tape,hb7'.output,hb7'.size,fun k hk=>hb7'.block k (by omega)⟩⟩
  have hx7:W1.heap[w.heap.size]? =some (.cells #[Value.string name,Value.bool true,Value.string file] 34 (0,0)):=(hb7'.block _ (by omega)).trans (blk_alloc ((hb6'.block _ (blk_lt HX5.out)).trans HX5.out) _)
  have hn0:W1.cell? ⟨w.heap.size,0,none⟩=some (.string name):=by have:=cell_of_row W1 _ 0 _ _ _ hx7;simpa using this
  clear hnd hdd hb6' hb7' hx7 hSZ HC7 H77 INS
  go_loopg [31] nd (fun kq v31 w'=>∃(i:Nat),v31= .int .i64 i∧Aside0 (kq+i=nd)∧Aside0 (findGo m (js.drop i)=findGo m js)∧Aside0 (Below W1.heap.size W1 w'))
  case atStart=>exact ⟨0,rfl,⟨rfl⟩,⟨rfl⟩,⟨Below.refl _ _⟩⟩
  case round=>
   obtain ⟨i,rfl,hki,hF,hB⟩:=hrel
   have hki':=hki.out
   have HBW:Aside0 (Below w.heap.size w wr):=⟨below_step HB1.out hB.out⟩
   cases gk with
   |zero=>
    have hlt:decide ((i:Int)<(nd:Int))=false:=decide_eq_false (by omega)
    go_wp2
    go_ret
    refine ⟨?_,HBW.out⟩
    have:=hF.out
    rw [List.drop_eq_nil_of_le (by rw [HJL.out];have:=HND.out;omega)] at this
    rw [←this];rfl
   |succ g1=>
    have hlt:decide ((i:Int)<(nd:Int))=true:=decide_eq_true (by omega)
    have hii:(0:Int)≤(i:Int):=by omega
    obtain ⟨d,hd⟩:∃d,dirs[i]? =some d:=⟨_,List.getElem?_eq_getElem (by rw [←HND.out];omega)⟩
    obtain ⟨⟨jn,jb⟩,hjs,kj,hjk⟩:=HJ.out i d hd
    obtain ⟨ad,hAd,hx0⟩:=str_at HDC.out i (by omega) d hd
    obtain rfl:=hAd
    replace hx0:=(hB.out.cell (World.block_lt_of_cell? W1 _ hx0)).trans hx0
    rw [Nat.mul_one] at hx0
    have hdr:js.drop i=(jn,jb)::js.drop (i+1):=by
     obtain ⟨hl',he'⟩:=List.getElem?_eq_some_iff.1 hjs
     rw [List.drop_eq_getElem_cons hl',he']
    have hg:=hF.out
    rw [hdr,findGo] at hg
    have HG:=z0 hg
    have n0:=(hB.out.cell (World.block_lt_of_cell? W1 _ hn0)).trans hn0
    have H79:Aside0 (∀W,Calls Tryz.prog 79 #[.string d,.string name] W fun e w'=>e= .returned (.tuple #[.string jn,.bool jb])∧Below W.heap.size W w'):=⟨fun W=>OJoin.head_joined.calls kj d name jn jb W hjk⟩
    clear hd hjs hdr hjk hg
    have HL:Aside0 (∀W,Below w.heap.size w W→W.cell? ⟨PB,0,none⟩=some (.map (some fm))∧(Instr.lookup 75 (.map (some fm)) (.string jn) true).run Tryz.prog W= .ok (.tuple #[(alGet m jn).getD (.string ⟨#[]⟩),.bool (alGet m jn).isSome]) W):=⟨fun W hb=>by
     have h1:w.cell? ⟨PB,0,none⟩=some (.map (some fm)):=by have:=cell_of_row w PB 0 _ _ _ HPA.out.hP;simpa using this
     exact ⟨(hb.cell (World.block_lt_of_cell? w _ h1)).trans h1,(HPA.out.hm.same (hb.block _ HPA.out.hm.lt)).getOk Tryz.underlying75 jn (.string ⟨#[]⟩) (fun _=>rfl)⟩⟩
    cases jb with
    |false=>
     go_wp2_with (go_at_call 79;go_loud (refine (H79.out _).mono ?_;rintro e w9 ⟨rfl,hb9⟩;have HB9:=z0 (below_step hB.out hb9);clear hb9))
     go_roundg g1
     case measure=>omega
     case rel=>exact ⟨i+1,by (try simp),⟨by omega⟩,⟨by rw [←HG.out];simp⟩,HB9⟩
    |true=>
     cases hal:alGet m jn with
     |none=>
      rw [hal] at HL HG
      clear hal
      go_wp2_with (go_at_call 79;go_loud (refine (H79.out _).mono ?_;rintro e w9 ⟨rfl,hb9⟩;have HB9:=z0 (below_step hB.out hb9);obtain ⟨p0,hlk⟩:=HL.out w9 (below_step HB1.out HB9.out);simp only [Option.getD_none,Option.isSome_none] at hlk;clear hb9))
      go_roundg g1
      case measure=>omega
      case rel=>exact ⟨i+1,by (try simp),⟨by omega⟩,⟨by rw [←HG.out];simp⟩,HB9⟩
     |some u=>
      rw [hal] at HL HG
      clear hal
      go_wp2_with (go_at_call 79;go_loud (refine (H79.out _).mono ?_;rintro e w9 ⟨rfl,hb9⟩;have HB9:=z0 (below_step hB.out hb9);obtain ⟨p0,hlk⟩:=HL.out w9 (below_step HB1.out HB9.out);simp only [Option.getD_some,Option.isSome_some] at hlk;clear hb9))
      go_ret
      refine ⟨?_,below_step HB1.out HB9.out⟩
      rw [←HG.out];simp
end Go.Proofs.YtolaiebjmhieiaaGreatDoor.OScan
end
section
namespace Go.Proofs
abbrev Tryz.muLink:Go.Conc.Locks.MuLink:={lock:=38,unlock:=39,ilock:=62,iunlock:=63,lockSlow:=113,unlockSlow:=116,disable:=109,enable:=111,acquire:=112,relMerge:=114,cas32:=110,add32:=115,tMutex:=82,tIMutex:=80,tPMutex:=121,tPIMutex:=168,tPI32:=170,tUP:=172,tNoCopy:=77,tU32:=78}
theorem Tryz.muLib:Go.Conc.Locks.MuLib Tryz.prog Tryz.muLink:=
 ⟨Tryz.func38,Tryz.func39,Tryz.func62,Tryz.func63,Tryz.func109,Tryz.func111,Tryz.func112,Tryz.func114,Tryz.func110,Tryz.func115,Tryz.underlying80,Tryz.runUnderlying80,Tryz.sizeOf80,Tryz.isAgg80,Tryz.zeroValue80,Tryz.underlying82,Tryz.runUnderlying82,Tryz.sizeOf82,Tryz.isAgg82,Tryz.zeroValue82,Tryz.underlying121,Tryz.runUnderlying121,Tryz.sizeOf121,Tryz.isAgg121,Tryz.zeroValue121,Tryz.underlying168,Tryz.runUnderlying168,Tryz.sizeOf168,Tryz.isAgg168,Tryz.zeroValue168,Tryz.underlying170,Tryz.runUnderlying170,Tryz.sizeOf170,Tryz.isAgg170,Tryz.zeroValue170,Tryz.underlying172,Tryz.runUnderlying172,Tryz.sizeOf172,Tryz.isAgg172,Tryz.zeroValue172,Tryz.underlying77,Tryz.runUnderlying77,Tryz.sizeOf77,Tryz.isAgg77,Tryz.zeroValue77,Tryz.underlying21,Tryz.runUnderlying21,Tryz.sizeOf21,Tryz.isAgg21,Tryz.zeroValue21,(by kernel_rfl)⟩
end Go.Proofs
end
section
namespace Go.Proofs.YtolaiebjmhieiaaGreatDoor.OScan
open Go.RowKit YtolaiebjmhieiaaGreatDoorW.PrintWords YtolaiebjmhieiaaGreatDoorW.PrintLast YtolaiebjmhieiaaGreatDoorW.PrintMore
open Go.MuLone
theorem read_old (m c:AL)(name:ByteArray)(u pv:Value)(base PB fm cm:Nat)(w:World)(HP:PrjIs base w PB fm cm pv m c)(hc:alGet c name=some u):
 Calls Tryz.prog 21 #[.pointer (some ⟨PB,0,none⟩),.string name] w fun e w'=>e= .returned u∧w'.heap[PB]? =w.heap[PB]?∧OnlyAt w w' PB:=by
 have hP:=HP.hP
 have p2:w.cell? ⟨PB,2,none⟩=some (.int .i32 0):=by have:=cell_of_row w PB 2 _ _ _ hP;simpa using this
 have f2:=blk_frozen hP 2
 have hP1:=blk_put hP 2 (.int .i32 1) rfl
 have hP2:=blk_put hP1 2 (.int .i32 0) rfl
 have p4:(w.setCell ⟨PB,2,none⟩ (.int .i32 1)).cell? ⟨PB,4,none⟩=some (.map (some cm)):=by have:=cell_of_row _ PB 4 _ _ _ hP1;simpa using this
 have hM:MapIs (w.setCell ⟨PB,2,none⟩ (.int .i32 1)) cm c:=HP.hc.same (Below.heap_setCell _ _ _ _ (by
  rintro e
  obtain ⟨es,cl,h1,_⟩:=HP.hc
  have e':cm=PB:=e
  subst e'
  rw [hP] at h1
  cases h1))
 have hlk:=hM.getOk Tryz.underlying83 name (.pointer none) (fun _=>rfl)
 rw [hc] at hlk
 simp only [Option.getD_some,Option.isSome_some] at hlk
 have hd1:(w.setCell ⟨PB,2,none⟩ (.int .i32 1)).cell? ⟨PB,2,none⟩=some (.int .i32 1):=by have:=cell_of_row _ PB 2 _ _ _ hP1;simpa using this
 have hd2:=blk_frozen hP1 2
 have HE:Aside0 (((w.setCell ⟨PB,2,none⟩ (.int .i32 1)).setCell ⟨PB,2,none⟩ (.int .i32 0)).heap[PB]? =w.heap[PB]?∧OnlyAt w ((w.setCell ⟨PB,2,none⟩ (.int .i32 1)).setCell ⟨PB,2,none⟩ (.int .i32 0)) PB):=⟨hP2.trans hP.symm,⟨rfl,rfl,rfl,by simp,fun k hk=>(Below.heap_setCell _ ⟨PB,2,none⟩ _ k hk).trans (Below.heap_setCell _ ⟨PB,2,none⟩ _ k hk)⟩⟩
 have HL:=lock_free Tryz.muLib ⟨PB,2,none⟩ w p2 f2
 have HU:=unlock_deferred Tryz.muLib ⟨PB,2,none⟩ .returning (w.setCell ⟨PB,2,none⟩ (.int .i32 1)) hd1 hd2
 clear hP hP1 hP2 hM HP hc p2 f2
 obtain ⟨W1,hW1⟩:∃W1,W1=w.setCell ⟨PB,2,none⟩ (.int .i32 1):=⟨_,rfl⟩
 rw [←hW1] at p4 hlk hd1 hd2 HE HL HU
 clear hW1
 go_enter_defers Tryz.func21,Tryz.ntmps21
 go_wp2_with (go_at_call 38;go_loud (refine HL.mono ?_;rintro e w' ⟨rfl,rfl⟩))
 refine leaves_cons (f:=39) (args:= #[.pointer (some ⟨PB,2,none⟩)]) (by simp) (by simp [go_sem]) ?_
 refine HU.mono ?_
 rintro e u' w'' ⟨rfl,rfl,rfl⟩
 exact ⟨_,results_tmp rfl _ _ _,rfl,HE.out⟩
abbrev Us:=ByteArray × Bool × ByteArray
abbrev kUs:Kd Us:=Kd.pair Kd.string (Kd.pair Kd.bool Kd.string)
def RdIs (base:Nat)(w:World)(rb:Nat)(us:List Us)(er:Int):Prop:=base≤rb∧∃vl vu,w.heap[rb]? =some (.cells #[vl,vu,.int .i64 er] 54 (0,0))∧Kd.R kUs 34 w base (fun _=>True) vu us
structure ReadQ (w0 w w':World)(PB cm:Nat)(c:AL)(name:ByteArray)(rb:Nat)(us:List Us)(er:Int):Prop where
 rd:RdIs w0.heap.size w' rb us er
 new:w.heap.size≤rb
 map:MapIs w' cm (alPut c name (.pointer (some ⟨rb,0,none⟩)))
 pb:w'.heap[PB]? =w.heap[PB]?
 below:Below w0.heap.size w0 w'
 keep:∀k,k<w.heap.size→k≠PB→k≠cm→w'.heap[k]? =w.heap[k]?
theorem read_e1 (m c:AL)(name text:ByteArray)(pv:Value)(PB fm cm:Nat)(w0 w:World)(HP:PrjIs w0.heap.size w PB fm cm pv m c)(HB:Below w0.heap.size w0 w)(hG:Glob2 w0)(hc:alGet c name=none)
 (ht:(alGet m name).getD (.string ⟨#[]⟩)= .string text) (hsz:text.size≤140737488355328) (he:(scanR text).2≠0):
 Calls Tryz.prog 21 #[.pointer (some ⟨PB,0,none⟩),.string name] w fun e w'=>∃rb,e= .returned (.pointer (some ⟨rb,0,none⟩))∧ReadQ w0 w w' PB cm c name rb [] (scanR text).2:=by
 have hP:=HP.hP
 have hPB:=blk_lt hP
 have p2:w.cell? ⟨PB,2,none⟩=some (.int .i32 0):=by have:=cell_of_row w PB 2 _ _ _ hP;simpa using this
 have f2:=blk_frozen hP 2
 have hP1:=blk_put hP 2 (.int .i32 1) rfl
 have hcP:cm≠PB:=by
  rintro e
  obtain ⟨es,cl,h1,_⟩:=HP.hc
  rw [e,hP] at h1
  cases h1
 have hfP:fm≠PB:=by
  rintro e
  obtain ⟨es,cl,h1,_⟩:=HP.hm
  rw [e,hP] at h1
  cases h1
 have hcs:=HP.hc.lt
 have hfs:=HP.hm.lt
 have HL:=lock_free Tryz.muLib ⟨PB,2,none⟩ w p2 f2
 obtain ⟨W1,hW1⟩:∃W1,W1=w.setCell ⟨PB,2,none⟩ (.int .i32 1):=⟨_,rfl⟩
 rw [←hW1] at HL hP1
 have hs1:W1.heap.size=w.heap.size:=by rw [hW1];simp
 have k1:∀k,k≠PB→W1.heap[k]? =w.heap[k]? :=fun k hk=>by rw [hW1];exact Below.heap_setCell _ ⟨PB,2,none⟩ _ k hk
 have B1:Below w0.heap.size w0 W1:=by rw [hW1];exact HB.setCell HP.bP _
 have hM1:MapIs W1 cm c:=HP.hc.same (k1 _ hcP)
 have hF1:MapIs W1 fm m:=HP.hm.same (k1 _ hfP)
 obtain ⟨W2,hW2⟩:∃W2,W2=W1.alloc (.cells #[Value.slice none 0 0,Value.slice none 0 0,Value.int .i64 0] 54):=⟨_,rfl⟩
 have B2:Below w0.heap.size w0 W2:=by rw [hW2];exact below_alloc B1 _
 have k2:∀k,k<w.heap.size→W2.heap[k]? =W1.heap[k]? :=fun k hk=>by rw [hW2];exact Below.heap_alloc _ _ _ (by omega)
 have hM2:MapIs W2 cm c:=hM1.same (k2 _ hcs)
 have hF2:MapIs W2 fm m:=hF1.same (k2 _ hfs)
 obtain ⟨rb,hrb⟩:∃rb,rb=W1.heap.size:=⟨_,rfl⟩
 have hR2:W2.heap[rb]? =some (.cells #[Value.slice none 0 0,Value.slice none 0 0,Value.int .i64 0] 54 (0,0)):=by rw [hW2,hrb];exact blk_new _ _
 have hs2:W2.heap.size=w.heap.size+1:=by rw [hW2,alloc_size,hs1]
 obtain ⟨W3,hrun,hM3,hO3⟩:=hM2.put (mt:=83) (e:=50) Tryz.underlying83 name (.pointer (some ⟨rb,0,none⟩))
 have hF3:MapIs W3 fm m:=hF2.same (hO3.block _ HP.ne)
 have B3:Below w0.heap.size w0 W3:=hO3.below B2 HP.bc
 have hlk1:=hM1.getOk Tryz.underlying83 name (.pointer none) (fun _=>rfl)
 rw [hc] at hlk1
 simp only [Option.getD_none,Option.isSome_none] at hlk1
 have hlk3:=hF3.get Tryz.underlying75 name (.string ⟨#[]⟩) (fun _=>rfl)
 rw [ht] at hlk3
 have hP2:=(k2 _ hPB).trans hP1
 have hP3:=(hO3.block _ (Ne.symm hcP)).trans hP2
 have hR3:=(hO3.block rb (by omega)).trans hR2
 have a1:W1.cell? ⟨PB,4,none⟩=some (.map (some cm)):=by have:=cell_of_row _ PB 4 _ _ _ hP1;simpa using this
 have a2:W2.cell? ⟨PB,4,none⟩=some (.map (some cm)):=by have:=cell_of_row _ PB 4 _ _ _ hP2;simpa using this
 have a3:W3.cell? ⟨PB,0,none⟩=some (.map (some fm)):=by have:=cell_of_row _ PB 0 _ _ _ hP3;simpa using this
 have H40:=scan_both text W3 (hG.below B3) hsz
 have K3:∀k,k<w.heap.size→k≠PB→k≠cm→W3.heap[k]? =w.heap[k]? :=fun k h1 h2 h3=>(hO3.block k h3).trans ((k2 k h1).trans (k1 k h2))
 have s3:w.heap.size<W3.heap.size:=by rw [hO3.size,hs2];omega
 have er0:((scanR text).2 !=0)=true:=by simpa using he
 have hrbs:rb<W3.heap.size:=blk_lt hR3
 have hPs:PB<W3.heap.size:=blk_lt hP3
 have hcs3:cm<W3.heap.size:=hM3.lt
 have hrP:rb≠PB:=by omega
 have hrc:rb≠cm:=by omega
 generalize (scanR text).1=ys at H40
 generalize (scanR text).2=er at *
 rw [hW2] at hrun a2
 rw [hrb] at hrun
 have HX:=z0 (And.intro hR3 (And.intro hP3 (And.intro hM3 (And.intro B3 K3))))
 have HRB:=z0 hrb
 have HPP:=z0 HP
 have HYP:=z0 (And.intro hP (And.intro s3 (And.intro hrbs (And.intro hPs (And.intro hcs3 (And.intro hrP hrc))))))
 have HS1:=z0 hs1
 clear hM1 hF1 B1 k1 hM2 hF2 B2 k2 hR2 hs2 hO3 hF3 B3 hP2 hP3 hR3 hP1 hW1 hW2 HP hP p2 f2 hs1 K3 s3 hrb hrbs hPs hcs3 hrP hrc hcs hfs hcP hfP hPB he hM3 HB hG hc ht hsz
 go_enter_defers Tryz.func21,Tryz.ntmps21
 go_wp2_with (first|(go_at_call 38;go_loud (refine HL.mono ?_;rintro e w' ⟨rfl,rfl⟩))|(go_at_call 40;go_loud (refine H40.mono ?_;rintro e w8 ⟨v8,rfl,hr8,hb8⟩;obtain ⟨A8,c8,rfl⟩:=Kd.R_slice hr8;obtain ⟨hR3,hP3,hM3,B3,K3⟩:=HX.out;obtain ⟨_,_,hrbs,hPs,hcs3,_,_⟩:=HYP.out;have hR8:=(hb8.block _ hrbs).trans hR3;have hP8:=(hb8.block _ hPs).trans hP3;have m0:w8.cell? ⟨rb,0,none⟩=some (.slice none 0 0):=(by have:=cell_of_row _ rb 0 _ _ _ hR8;simpa using this);have m2:w8.cell? ⟨rb,2,none⟩=some (.int .i64 0):=(by have:=cell_of_row _ rb 2 _ _ _ hR8;simpa using this);have g0:=blk_frozen hR8 0;have g2:=blk_frozen hR8 2;rw [HRB.out] at m0 m2 g0 g2;have HR8:=z0 hR8;have HP8:=z0 hP8;have HB8:=z0 hb8;clear hr8 hb8 hR3 hP3 hM3 B3 K3 hrbs hPs hcs3 hR8 hP8)))
 obtain ⟨W9,hW9⟩:∃W9,W9=((w8.setCell {block:=w'.heap.size,off:=0} (Value.slice A8 ys.length c8)).setCell {block:=w'.heap.size,off:=2} (Value.int IntKind.i64 er)):=⟨_,rfl⟩
 rw [←hW9]
 rw [←HRB.out] at hW9 ⊢
 obtain ⟨hR3,hP3,hM3,B3,K3⟩:=HX.out
 obtain ⟨hP,s3,hrbs,hPs,hcs3,hrP,hrc⟩:=HYP.out
 have hR9:W9.heap[rb]? =some (.cells #[Value.slice A8 ys.length c8,Value.slice none 0 0,Value.int .i64 er] 54 (0,0)):=by rw [hW9];exact blk_put (blk_put HR8.out 0 _ rfl) 2 _ rfl
 have hP9:W9.heap[PB]? =some (.cells #[Value.map (some fm),pv,Value.int .i32 1,Value.int .u32 0,Value.map (some cm)] 87 (0,0)):=by rw [hW9];exact blk_far (blk_far HP8.out (Ne.symm hrP) _) (Ne.symm hrP) _
 have k9:∀k,k≠rb→W9.heap[k]? =w8.heap[k]? :=fun k hk=>by rw [hW9];exact (Below.heap_setCell _ ⟨rb,2,none⟩ _ k hk).trans (Below.heap_setCell _ ⟨rb,0,none⟩ _ k hk)
 have hrb0:w.heap.size≤rb:=by have h1:=HRB.out;have h2:=HS1.out;omega
 have hw0:w0.heap.size≤rb:=by have:=HPP.out.bP;have:=blk_lt hP;omega
 have B9:Below w0.heap.size w0 W9:=by rw [hW9];exact ((below_step B3 HB8.out).setCell hw0 _).setCell hw0 _
 have d1:W9.cell? ⟨PB,2,none⟩=some (.int .i32 1):=by have:=cell_of_row _ PB 2 _ _ _ hP9;simpa using this
 have d2:=blk_frozen hP9 2
 refine leaves_cons (f:=39) (args:= #[.pointer (some ⟨PB,2,none⟩)]) (by simp) (by simp [go_sem]) ?_
 refine (unlock_deferred Tryz.muLib ⟨PB,2,none⟩ .returning W9 d1 d2).mono ?_
 rintro e u' w'' ⟨rfl,rfl,rfl⟩
 refine ⟨_,results_tmp rfl _ _ _,rb,rfl,⟨⟨hw0,_,_,blk_far hR9 hrP _,Kd.R_nil _ _ _ _ _⟩,hrb0,hM3.same ?_,?_,B9.setCell HPP.out.bP _,fun k h1 h2 h3=> ?_⟩⟩
 · exact (Below.heap_setCell _ ⟨PB,2,none⟩ _ cm (by
    rintro e
    obtain ⟨es,cl,h1,_⟩:=HPP.out.hc
    have e':cm=PB:=e
    rw [e',hP] at h1
    cases h1)).trans ((k9 cm (Ne.symm hrc)).trans (HB8.out.block cm hcs3))
 · rw [hP];exact blk_put hP9 2 _ rfl
 · exact (Below.heap_setCell _ ⟨PB,2,none⟩ _ k h2).trans ((k9 k (by omega)).trans ((HB8.out.block k (by omega)).trans (K3 k h1 h2 h3)))
end Go.Proofs.YtolaiebjmhieiaaGreatDoor.OScan
end
