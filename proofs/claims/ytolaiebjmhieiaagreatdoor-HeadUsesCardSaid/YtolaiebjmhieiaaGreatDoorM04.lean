/- Parts of the proof of HeadUses; no condition. -/
import Derived.Test.YtolaiebjmhieiaaGreatDoorM03
import Derived.Test.YtolaiebjmhieiaaGreatDoorM01
import Derived.Shelf.Strings.Trim
import Derived.Shelf.Small.Utf8
import Derived.Shelf.Small.Bits
import Derived.Shelf.Small.Strs
import Derived.Shelf.Utf8.RuneCount
import Derived.Shelf.Strconv.Itoa0
import Derived.Shelf.Strings.Search1
import Derived.Shelf.Strings.Search2
import Derived.Shelf.Strings.Search3
import Derived.Shelf.Strings.Count
import Derived.Shelf.LaysM
import Derived.Shelf.Strings.Shaped
import Derived.Shelf.Strings.Split
import Derived.Shelf.Strings.Fields
import Derived.Shelf.Strings.SplitShaped
import Derived.Shelf.Strings.Runes
import Derived.Shelf.Strings.RuneCount
import Derived.Shelf.Strings.AsciiSet
import Derived.Shelf.Strings.Explode
import Derived.Ground.Names2Prog
import Derived.Shelf.Slices.ReverseS
import Derived.Shelf.Slices.Clone
import Derived.Shelf.Slices.Cells
import Derived.Test.YtolaiebjmhieiaaGreatDoorProg
import Derived.Ground.NamesProg
import Derived.Lib.AppendIntMem
import Derived.Below
import Derived.Deep.Draws
import Derived.Deep.AppendLies
import Derived.Maps.AppendAt
import Derived.OwnWalk
import Derived.Laws.BytesArg
import Derived.Laws.MakeOwn
import Derived.Laws.OwnMore
import Derived.Deep.OwnRows
import Derived.Tactics
import Derived.Lib.ConvBytes
import Derived.Laws.Slices
import Derived.WalkKit
import Derived.KernelRfl
import Derived.RowKit3
import Derived.Deep.LoopGhost
import Derived.Deep.QuietTactic
import Derived.BigQuiet
import Derived.WideLaws
import Derived.Deep.DeepCutAuto
import Derived.Deep.CutBlock
import Derived.Deep.RegionHeld3
import Derived.Laws.Rows
import Derived.Lib.AppendStr
import Derived.ArgAppend
import Derived.Laws.IdiomCopy
import Derived.OrdersHeld
import Derived.Laws.BitsLemmas
import Derived.RowKit
set_option maxHeartbeats 8000000
set_option maxRecDepth 100000
set_option linter.unusedVariables false
set_option linter.unusedSimpArgs false
section
namespace Go.Proofs.YtolaiebjmhieiaaGreatDoor.OScan
open Go.RowKit YtolaiebjmhieiaaGreatDoorW.PrintWords YtolaiebjmhieiaaGreatDoorW.PrintLast YtolaiebjmhieiaaGreatDoorW.PrintMore
theorem span_le (p:UInt8→Bool):∀l:List UInt8,spanL p l≤l.length
 |[]=>Nat.le_refl _
 |b::l=>by
  rw [spanL]
  have:=span_le p l
  split
  · simp only [List.length_cons];omega
  · exact Nat.zero_le _
theorem span_at (p:UInt8→Bool):∀(l:List UInt8) (j:Nat) (b:UInt8),j<spanL p l→l[j]? =some b→p b=true
 |[],j,b,h,_=>by simp [spanL] at h
 |a::l,j,b,h,hb=>by
  rw [spanL] at h
  split at h
  · rename_i ha
    cases j with
    |zero=>simp at hb;rw [←hb];exact ha
    |succ j=>exact span_at p l j b (by omega) (by simpa using hb)
  · omega
theorem span_end (p:UInt8→Bool):∀(l:List UInt8) (b:UInt8),l[spanL p l]? =some b→p b=false
 |[],b,h=>by simp at h
 |a::l,b,h=>by
  rw [spanL] at h
  split at h
  · exact span_end p l b (by simpa using h)
  · rename_i ha
    simp at h
    rw [←h]
    simpa using ha
theorem indexByte_span (l:List UInt8)(b:UInt8):Lib.indexByte l b=if spanL (fun x=>x !=b) l<l.length then (spanL (fun x=>x !=b) l:Int) else-1:=by
 induction l with
 |nil=>rfl
 |cons a l ih=>
  unfold Lib.indexByte
  rw [spanL,ih]
  have:=span_le (fun x=>x !=b) l
  by_cases h:a=b
  · subst h
    simp
  · have h1:(a==b)=false:=beq_eq_false_iff_ne.mpr h
    have h2:(a !=b)=true:=by simp [h]
    rw [h1,if_neg (by decide),if_pos h2]
    by_cases h3:spanL (fun x=>x !=b) l<l.length
    · rw [if_pos h3,if_neg (by simp),if_pos (by simp only [List.length_cons];omega)]
      omega
    · rw [if_neg h3,if_pos (by simp),if_neg (by simp only [List.length_cons];omega)]
theorem index_one (l:List UInt8)(b:UInt8):Lib.index l [b]=Lib.indexByte l b:=by
 induction l with
 |nil=>rfl
 |cons a l ih=>
  unfold Lib.index Lib.indexByte
  rw [ih]
  have:([b].isPrefixOf (a::l))=(a==b):=by
   simp only [List.isPrefixOf,Bool.and_true]
   exact Bool.beq_comm
  rw [this]
theorem contains_one (l:List UInt8)(b:UInt8):Lib.contains l [b]=l.contains b:=by
 unfold Lib.contains
 rw [index_one,Lib.contains_iff_indexByte]
theorem suffix_eq (b:ByteArray)(x:UInt8)(hb:b.size≤1000000):strings_HasSuffix.f b (⟨#[x]⟩:ByteArray)=some (b.data.toList.getLast? ==some x):=by
 simp only [strings_HasSuffix.f,stringslite_HasSuffix.f]
 have e1:((⟨#[x]⟩:ByteArray).size:Int)=1:=rfl
 rw [e1,wr (a:=(b.size:Int)-1) (by omega) (by omega)]
 by_cases hb1:(b.size:Int)≥1
 · rw [if_pos hb1,if_pos (by omega),if_pos (by omega)]
   simp only [Option.bind_some,Option.some.injEq]
   have hl:b.data.toList.length=b.size:=rfl
   rw [Lib.toList_data,Lib.extract_to_end,Lib.toList_data,show ((b.size:Int)-1).toNat=b.data.toList.length-1 by omega]
   obtain ⟨u,y,hu⟩:∃u y,b.data.toList=u++[y]:=by
    rcases List.eq_nil_or_concat b.data.toList with h|⟨u,y,h⟩
    · rw [h] at hl;simp at hl;omega
    · exact ⟨u,y,by rw [h,List.concat_eq_append]⟩
   rw [hu]
   have e2:(⟨#[x]⟩:ByteArray).data.toList=[x]:=rfl
   rw [e2]
   simp
 · rw [if_neg hb1]
   have h0:b.data.toList=[]:=List.eq_nil_of_length_eq_zero (by show b.size=0;omega)
   rw [h0]
   rfl
theorem trim_eq (b:ByteArray)(x:UInt8)(hb:b.size≤1000000):strings_TrimSuffix.f b (⟨#[x]⟩:ByteArray)=some (if b.data.toList.getLast? =some x then b.extract 0 (b.size-1) else b):=by
 have h:=suffix_eq b x hb
 simp only [strings_HasSuffix.f] at h
 have e1:((⟨#[x]⟩:ByteArray).size:Int)=1:=rfl
 obtain ⟨t,ht⟩:∃t,stringslite_HasSuffix.f b (⟨#[x]⟩:ByteArray)=some t:=by
  cases hh:stringslite_HasSuffix.f b (⟨#[x]⟩:ByteArray) with
  |none=>rw [hh] at h;simp at h
  |some t=>exact ⟨t,rfl⟩
 rw [ht] at h
 simp only [Option.bind_some,Option.some.injEq] at h
 simp only [strings_TrimSuffix.f,stringslite_TrimSuffix.f,ht,Option.bind_some,e1]
 rw [wr (a:=(b.size:Int)-1) (by omega) (by omega)]
 by_cases hl:b.data.toList.getLast? =some x
 · have:t=true:=by rw [h,hl];simp
   subst this
   have hs1:1≤b.size:=by
    cases hq:b.data.toList with
    |nil=>rw [hq] at hl;simp at hl
    |cons a l=>
     have:b.data.toList.length=b.size:=rfl
     rw [hq] at this
     simp only [List.length_cons] at this
     omega
   rw [if_pos rfl,if_pos (by omega),if_pos (by omega),if_pos hl]
   simp only [Option.bind_some,Option.some.injEq]
   rw [show ((b.size:Int)-1).toNat=b.size-1 by omega]
 · have:t=false:=by rw [h];simpa using hl
   subst this
   rw [if_neg (by decide),if_neg hl]
   rfl
def pr1 (L:List UInt8)(e:Nat):UInt8:=if e=0 then 0 else L.getD (e-1) 0
def pr2 (L:List UInt8)(e:Nat):UInt8:=if e≤1 then 0 else L.getD (e-2) 0
def lineA (L:List UInt8)(e:Nat):Nat × Bool:=lineG (pr2 L e) (pr1 L e) (L.drop e)
theorem pr1_succ (L:List UInt8)(e:Nat):pr1 L (e+1)=L.getD e 0:=by unfold pr1;rw [if_neg (by omega)];rfl
theorem pr2_succ (L:List UInt8)(e:Nat):pr2 L (e+1)=pr1 L e:=by
 unfold pr2 pr1
 by_cases h:e=0
 · rw [if_pos (by omega),if_pos h]
 · rw [if_neg (by omega),if_neg h];rfl
theorem lineA_step (L:List UInt8)(e:Nat)(b:UInt8)(h:L[e]? =some b):lineA L e=if b=10∧¬(pr1 L e=92∨(pr1 L e=13∧pr2 L e=92)) then (0,pr1 L e==13) else ((lineA L (e+1)).1+1,(lineA L (e+1)).2):=by
 have hl:=(List.getElem?_eq_some_iff.1 h).1
 have he:L.getD e 0=b:=by rw [List.getD_eq_getElem?_getD,h];rfl
 unfold lineA
 rw [List.drop_eq_getElem_cons hl,pr1_succ,pr2_succ,he,lineG]
 have:L[e]=b:=(List.getElem?_eq_some_iff.1 h).2
 rw [this]
theorem lineA_end (L:List UInt8)(e:Nat)(h:L.length≤e):lineA L e=(0,false):=by
 unfold lineA
 rw [List.drop_eq_nil_of_le h,lineG]
theorem lineA_skip (L:List UInt8):∀(n e:Nat),e+n≤L.length→(∀j,j<n→L[e+j]?≠some 10)→lineA L e=((lineA L (e+n)).1+n,(lineA L (e+n)).2)
 |0,e,_,_=>rfl
 |n+1,e,hl,hn=>by
  obtain ⟨b,hb⟩:∃b,L[e]? =some b:=⟨_,List.getElem?_eq_getElem (by omega)⟩
  have hb10:b≠10:=fun h=>hn 0 (by omega) (by rw [Nat.add_zero,hb,h])
  rw [lineA_step L e b hb,if_neg (fun h=>hb10 h.1),lineA_skip L n (e+1) (by omega) (fun j hj=>by have:=hn (j+1) (by omega);rwa [show e+(j+1)=e+1+j by omega] at this)]
  rw [show e+1+n=e+(n+1) by omega]
  rfl
theorem lineA_cr (L:List UInt8)(e:Nat)(h:(lineA L e).2=true):1≤e+(lineA L e).1:=by
 by_cases he:e=0
 · subst he
   by_cases h1:(lineA L 0).1=0
   · exfalso
     cases hb:L[0]? with
     |none=>rw [lineA_end L 0 (by simpa using hb)] at h;cases h
     |some b=>
      rw [lineA_step L 0 b hb] at h h1
      split at h
      · simp [pr1] at h
      · rename_i hn
        rw [if_neg hn] at h1
        simp at h1
   · omega
 · omega
section
variable (s:ByteArray)(at0:Int)(sg:List ByteArray)(c:Bool)
theorem take_last (L:List UInt8)(e:Nat)(h0:1≤e)(h1:e≤L.length):(L.take e).getLast? =some (L.getD (e-1) 0):=by
 rw [List.getLast?_eq_getElem?,List.length_take,Nat.min_eq_left h1,List.getElem?_take,if_pos (by omega),List.getD_eq_getElem?_getD,List.getElem?_eq_getElem (by omega)]
 rfl
theorem line_l0_eq (R:ByteArray)(hs:R.size≤1000000)(h35:R.data.toList[0]? =some 35):∀(d k e:Nat),e≤R.size→R.size-e≤d→d<k→∀v,lex_scanner_line.l0 k R (e:Int) s at0 v sg c=some ((e:Int)+((lineA R.data.toList e).1:Int)-(if (lineA R.data.toList e).2=true then 1 else 0),s,at0,v,c)
 |d,0,_,_,_,h=>by omega
 |d,k+1,e,he,hd,hk=>fun v=>by
  have hL:R.data.toList.length=R.size:=rfl
  simp only [lex_scanner_line.l0,strings_IndexByte.f]
  rw [if_pos (by omega),if_pos (by omega),Int.toNat_natCast,Lib.extract_to_end,show (10:Int).toNat.toUInt8=(10:UInt8) from rfl,indexByte_span]
  simp only [Option.bind_some]
  generalize hn:spanL (fun x=>x !=10) (R.data.toList.drop e)=n
  have hdl:(R.data.toList.drop e).length=R.size-e:=by rw [List.length_drop];rfl
  have hle:=span_le (fun x=>x !=10) (R.data.toList.drop e)
  rw [hn,hdl] at hle
  have hno:∀j,j<n→R.data.toList[e+j]?≠some 10:=fun j hj h=>by
   have:=span_at (fun x=>x !=10) (R.data.toList.drop e) j 10 (by rw [hn];exact hj) (by rw [List.getElem?_drop];exact h)
   simp at this
  have hsk:=lineA_skip R.data.toList n e (by omega) hno
  rw [hdl]
  by_cases hlt:n<R.size-e
  · rw [if_pos hlt,if_neg (by omega),wr (a:=(e:Int)+n) (by omega) (by omega),if_pos (by omega),if_pos (by omega)]
    obtain ⟨b,hb⟩:∃b,R.data.toList[e+n]? =some b:=⟨_,List.getElem?_eq_getElem (by omega)⟩
    have hb10:b=10:=by
     have:=span_end (fun x=>x !=10) (R.data.toList.drop e) b (by rw [hn,List.getElem?_drop];exact hb)
     simpa using this
    subst hb10
    have he1:1≤e+n:=by
     by_cases h0:e+n=0
     · rw [h0,h35] at hb;cases hb
     · omega
    have hst:=lineA_step R.data.toList (e+n) 10 hb
    have hX:(R.extract 0 ((e:Int)+n).toNat).data.toList=R.data.toList.take (e+n):=by
     rw [show ((e:Int)+n).toNat=e+n by omega,Lib.Pa.extract_upto_list]
    have hXs:(R.extract 0 ((e:Int)+n).toNat).size=e+n:=by rw [ByteArray.size_extract];omega
    generalize R.extract 0 ((e:Int)+n).toNat=X at *
    have hlast:X.data.toList.getLast? =some (pr1 R.data.toList (e+n)):=by
     rw [hX,take_last _ _ he1 (by omega)]
     unfold pr1
     rw [if_neg (by omega)]
    rw [trim_eq X 13 (by omega),suffix_eq X 92 (by omega)]
    simp only [Option.bind_some,hlast,wr (a:=(e:Int)+n+1) (by omega) (by omega)]
    have ih:=line_l0_eq R hs h35 (d-1) k (e+n+1) (by omega) (by omega) (by omega) v
    rw [show ((e+n+1:Nat):Int)=(e:Int)+n+1 by omega] at ih
    rw [ih,hsk]
    generalize lineA R.data.toList (e+n+1)=r at *
    have fin:some ((e:Int)+n+1+(r.1:Int)-(if r.2=true then 1 else 0),s,at0,v,c)=some ((e:Int)+((r.1+1+n:Nat):Int)-(if r.2=true then 1 else 0),s,at0,v,c):=by
     rw [show (e:Int)+n+1+(r.1:Int)=(e:Int)+((r.1+1+n:Nat):Int) by omega]
    by_cases q1:pr1 R.data.toList (e+n)=92
    · rw [if_neg (by rw [q1];exact fun h=>h.2 (.inl rfl))] at hst
      rw [if_pos (by rw [q1];decide),hst]
      exact fin
    · rw [if_neg (by simpa using q1)]
      by_cases q2:pr1 R.data.toList (e+n)=13
      · rw [if_pos (by rw [q2]),suffix_eq _ 92 (by rw [ByteArray.size_extract];omega)]
        simp only [Option.bind_some]
        have hY:(X.extract 0 (X.size-1)).data.toList=R.data.toList.take (e+n-1):=by
         rw [Lib.Pa.extract_upto_list,hX,hXs,List.take_take,Nat.min_eq_left (by omega)]
        have hYs:(X.extract 0 (X.size-1)).size=e+n-1:=by rw [ByteArray.size_extract];omega
        rw [hY]
        by_cases q3:pr2 R.data.toList (e+n)=92
        · have h2:2≤e+n:=by
           by_cases h:e+n≤1
           · unfold pr2 at q3;rw [if_pos h] at q3;cases q3
           · omega
          have:(R.data.toList.take (e+n-1)).getLast? =some 92:=by
           rw [take_last _ _ (by omega) (by omega)]
           unfold pr2 at q3
           rw [if_neg (by omega)] at q3
           rw [show e+n-1-1=e+n-2 by omega,q3]
          rw [if_neg (by rw [q2,q3];decide)] at hst
          rw [this,if_pos (by decide),hst]
          exact fin
        · have:¬((R.data.toList.take (e+n-1)).getLast? ==some 92)=true:=by
           by_cases h2:2≤e+n
           · rw [take_last _ _ (by omega) (by omega)]
             unfold pr2 at q3
             rw [if_neg (by omega)] at q3
             rw [show e+n-1-1=e+n-2 by omega]
             simpa using q3
           · rw [show e+n-1=0 by omega]
             simp
          rw [if_pos ⟨rfl,fun h=>h.elim q1 fun h=>q3 h.2⟩,q2] at hst
          rw [if_neg this,hst,hYs]
          simp only [Option.some.injEq,Prod.mk.injEq,and_true]
          rw [if_pos (by decide)]
          omega
      · rw [if_neg (by simpa using q2),suffix_eq X 92 (by omega)]
        simp only [Option.bind_some,hlast]
        rw [if_pos ⟨rfl,fun h=>h.elim q1 fun h=>q2 h.1⟩] at hst
        rw [if_neg (by simpa using q1),hst,hXs]
        simp only [Option.some.injEq,Prod.mk.injEq,and_true]
        rw [if_neg (by simpa using q2)]
        omega
  · rw [if_neg hlt,if_pos (by decide),hsk,lineA_end _ _ (by omega)]
    simp only [Option.some.injEq,Prod.mk.injEq,and_true]
    rw [if_neg (by decide)]
    omega
theorem line_eq (hs:s.size≤1000000)(h0:0≤at0)(h1:at0≤s.size)(k:Nat)(hk:s.size+1<k):∀v,lex_scanner_line.f k s at0 v sg c=some ((lineL c (sfx s at0):Int),s,at0,v,c):=fun v=>by
 have hn:=next_tot s at0 sg c hs h0 h1 0 (by omega) (by omega)
 obtain ⟨k,rfl⟩:∃m,k=m+1:=⟨k-1,by omega⟩
 have hr:=rest_tot s at0 sg c hs h0 h1
 simp only [lex_scanner_line.f,hn,Option.bind_some,lex_scanner_line.j0,hr]
 rw [Int.add_zero]
 cases c with
 |false=>
  rw [if_neg (by decide),if_pos trivial]
  cases sfx s at0 with
  |nil=>rfl
  |cons b l=>rw [lineL,if_neg (by simp)];rfl
 |true=>
  rw [if_pos rfl]
  by_cases hp:at0<s.size
  · obtain ⟨b,e1,_,e3⟩:=sfx_cons s at0 h0 hp
    have y35:((b.toNat:Int)=35)↔b=35:=u8_eq b 35 (by decide)
    rw [e3]
    by_cases q:b=35
    · have hR:(s.extract at0.toNat s.size).data.toList=sfx s at0:=rest_list s at0 h0
      have hRs:(s.extract at0.toNat s.size).size≤s.size:=by rw [ByteArray.size_extract];omega
      have hl:=line_l0_eq s at0 sg true (s.extract at0.toNat s.size) (by omega) (by rw [hR,e1,q];rfl) s.size k 0 (Nat.zero_le _) (by omega) (by omega) v
      have hcr:=lineA_cr (s.extract at0.toNat s.size).data.toList 0
      have e0:((0:Nat):Int)=0:=rfl
      rw [e0] at hl
      rw [if_neg (by simp [q]),hl]
      rw [hR,e1,q] at hcr ⊢
      have hst:=lineA_step (35::sfx s (at0+1)) 0 35 rfl
      rw [if_neg (fun h=>absurd h.1 (by decide))] at hst
      have hLL:lineL true (35::sfx s (at0+1))=1+(lineG 0 35 (sfx s (at0+1))).1-(if (lineG 0 35 (sfx s (at0+1))).2=true then 1 else 0):=by
       rw [lineL]
       simp
      rw [hLL]
      have hA:lineA (35::sfx s (at0+1)) (0+1)=lineG 0 35 (sfx s (at0+1)):=rfl
      rw [hst,hA] at hcr ⊢
      generalize lineG 0 35 (sfx s (at0+1))=r at *
      simp only [Option.some.injEq,Prod.mk.injEq,and_true]
      by_cases h2:r.2=true
      · rw [if_pos h2,if_pos h2];omega
      · rw [if_neg h2,if_neg h2];omega
    · rw [if_pos (by simpa using fun h=>q (y35.1 h)),e1,lineL,if_neg (fun h=>q h.2)]
      rfl
  · rw [nx_past s _ (by omega),sfx_nil s _ (by omega),if_pos (by decide)]
    rfl
end
def blkE (l:List UInt8):Nat:=if Lib.index (l.drop 2) [42,47]<0 then l.length else (Lib.index (l.drop 2) [42,47]).toNat+4
def comL (c:Bool)(l:List UInt8):Option (Nat × Bool):=
 if [47,47].isPrefixOf l=true then some (spanL (fun x=>x !=10) l,c)
 else if [47,42].isPrefixOf l=true then some (blkE l,c||(l.take (blkE l)).contains 10) else none
theorem blk_le (l:List UInt8)(h:[47,42].isPrefixOf l=true):blkE l≤l.length∧2≤blkE l:=by
 have hl:=(List.isPrefixOf_iff_prefix.1 h).length_le
 simp only [List.length_cons,List.length_nil] at hl
 unfold blkE
 have:=index_room (l.drop 2) [42,47]
 simp only [List.length_cons,List.length_nil,List.length_drop] at this
 split
 · omega
 · have:=this (by omega);omega
section
variable (s:ByteArray)(at0:Int)(sg:List ByteArray)(c:Bool)
theorem comment_eq (hs:s.size≤1000000)(h0:0≤at0)(h1:at0≤s.size):∀v,lex_scanner_comment.f s at0 v sg c=some (match comL c (sfx s at0) with|none=>(false,s,at0,v,c)|some r=>(true,s,at0+r.1,v,r.2)):=fun v=>by
 have hr:=rest_tot s at0 sg c hs h0 h1
 have hRl:=rest_list s at0 h0
 have hsz:(s.extract at0.toNat s.size).size=s.size-at0.toNat:=by rw [ByteArray.size_extract];omega
 have hll:=sfx_len s at0
 simp only [lex_scanner_comment.f,hr,Option.bind_some,prefix_eq]
 generalize s.extract at0.toNat s.size=R at *
 rw [hRl]
 unfold comL
 generalize hl:sfx s at0=l at *
 have hlR:l.length=R.size:=by rw [hsz,hll]
 by_cases q1:[47,47].isPrefixOf l=true
 · rw [if_pos q1,if_pos q1]
   simp only [strings_IndexByte.f,Option.bind_some,hRl,show (10:Int).toNat.toUInt8=(10:UInt8) from rfl,indexByte_span]
   have hle:=span_le (fun x=>x !=10) l
   by_cases q2:spanL (fun x=>x !=10) l<l.length
   · rw [if_pos q2,if_neg (by omega),wr (by omega) (by omega)]
   · rw [if_neg q2,if_pos (by decide),wr (by omega) (by omega),show spanL (fun x=>x !=10) l=l.length by omega,hlR]
 · rw [if_neg q1,if_neg q1]
   by_cases q2:[47,42].isPrefixOf l=true
   · rw [if_pos q2,if_pos q2]
     have hle:=(List.isPrefixOf_iff_prefix.1 q2).length_le
     simp only [List.length_cons,List.length_nil] at hle
     obtain ⟨bl,b2⟩:=blk_le l q2
     have hx:(R.extract 2 R.size).data.toList=l.drop 2:=by rw [Lib.extract_to_end,hRl]
     have hxs:(R.extract 2 R.size).size<4294967281:=by rw [ByteArray.size_extract];omega
     have e2:(⟨#[42,47]⟩:ByteArray).data.toList=[42,47]:=rfl
     have e10:(⟨#[10]⟩:ByteArray).data.toList=[10]:=rfl
     rw [if_pos (by omega)]
     simp only [strings_Index.f,if_pos hxs,Option.bind_some,hx,e2]
     have hg:=Lib.index_ge (l.drop 2) [42,47]
     have hroom:=index_room (l.drop 2) [42,47]
     simp only [List.length_cons,List.length_nil,List.length_drop] at hroom
     have hbe:blkE l=if Lib.index (l.drop 2) [42,47]<0 then l.length else (Lib.index (l.drop 2) [42,47]).toNat+4:=rfl
     generalize Lib.index (l.drop 2) [42,47]=t at *
     have ht:t<0∨t≤R.size:=by
      by_cases h:t<0
      · exact .inl h
      · exact .inr (by have:=hroom (by omega);omega)
     rw [wr (a:=t+4) (by omega) (by omega)]
     have hct:∀b:ByteArray,b.size≤1000000→strings_Contains.f b ⟨#[10]⟩=some (b.data.toList.contains 10):=fun b hb=>by
      unfold strings_Contains.f
      rw [if_pos (by omega),e10,contains_one]
     by_cases q3:t<0
     · rw [if_pos q3] at hbe
       rw [if_pos (by omega),hbe,List.take_of_length_le (Nat.le_refl _),wr (a:=at0+(R.size:Int)) (by omega) (by omega)]
       cases c with
       |true=>simp [hlR]
       |false=>
        rw [if_neg (by decide),if_pos (by omega),if_pos (by omega),hct R (by omega)]
        simp [hRl,hlR]
     · rw [if_neg q3] at hbe
       rw [if_neg (by omega),wr (a:=at0+(t+4)) (by omega) (by omega),show at0+(t+4)=at0+(blkE l:Int) by omega]
       cases c with
       |true=>simp
       |false=>
        have hr2:=hroom (by omega)
        have hY:(R.extract 0 (t+4).toNat).data.toList=l.take (blkE l):=by rw [Lib.Pa.extract_upto_list,hRl,show (t+4).toNat=blkE l by omega]
        rw [if_neg (by decide),if_pos (by omega),if_pos (by omega),hct _ (by rw [ByteArray.size_extract];omega),hY]
        simp
   · rw [if_neg q2,if_neg q2]
end
def pieceL:List UInt8→Bool→Option (Nat × Bool)
 |[],_=>none
 |b::l,c=>if b=10 then some (1,true) else if b=32∨b=9 then some (1,c) else if b=11∨b=12∨b=13 then some (1,false)
  else if b=92∧hd l=10 then some (2,true) else if b=92∧hd l=13∧hd l.tail=10 then some (3,true) else comL c (b::l)
def befL:Nat→List UInt8→Bool→Nat × Bool
 |0,_,c=>(0,c)
 |f+1,l,c=>match pieceL l c with
  |none=>(0,c)
  |some r=>(r.1+(befL f (l.drop r.1) r.2).1,(befL f (l.drop r.1) r.2).2)
theorem comL_le {c:Bool}{l:List UInt8}{r:Nat × Bool}(h:comL c l=some r):1≤r.1∧r.1≤l.length:=by
 unfold comL at h
 split at h
 · rename_i hp
   obtain rfl:=Option.some.inj h
   obtain ⟨t,ht⟩:=List.isPrefixOf_iff_prefix.1 hp
   refine ⟨?_,span_le _ _⟩
   rw [←ht]
   show 1≤spanL (fun x=>x !=10) (47::47::t)
   rw [spanL,if_pos (by decide)]
   omega
 · split at h
   · rename_i hp
     obtain rfl:=Option.some.inj h
     obtain ⟨h1,h2⟩:=blk_le l hp
     exact ⟨by simp only;omega,h1⟩
   · cases h
theorem pieceL_le {c:Bool}{l:List UInt8}{r:Nat × Bool}(h:pieceL l c=some r):1≤r.1∧r.1≤l.length:=by
 cases l with
 |nil=>cases h
 |cons b l=>
  rw [pieceL] at h
  have hh:∀n:Int,n≠0→hd l=n→1≤l.length:=fun n hn h=>by
   cases l with
   |nil=>exact absurd h.symm hn
   |cons a l=>simp
  have hh2:∀n:Int,n≠0→hd l.tail=n→2≤l.length:=fun n hn h=>by
   cases l with
   |nil=>exact absurd h.symm hn
   |cons a l=>
    cases l with
    |nil=>exact absurd h.symm hn
    |cons a l=>simp
  repeat' split at h
  · obtain rfl:=Option.some.inj h;simp
  · obtain rfl:=Option.some.inj h;simp
  · obtain rfl:=Option.some.inj h;simp
  · rename_i hq
    obtain rfl:=Option.some.inj h
    have:=hh 10 (by decide) hq.2
    simp only [List.length_cons];omega
  · rename_i hq
    obtain rfl:=Option.some.inj h
    have:=hh2 10 (by decide) hq.2.2
    simp only [List.length_cons];omega
  · exact comL_le h
theorem befL_le:∀(f:Nat) (l:List UInt8) (c:Bool),(befL f l c).1≤l.length
 |0,_,_=>Nat.zero_le _
 |f+1,l,c=>by
  rw [befL]
  cases h:pieceL l c with
  |none=>exact Nat.zero_le _
  |some r=>
   obtain ⟨h1,h2⟩:=pieceL_le h
   have:=befL_le f (l.drop r.1) r.2
   rw [List.length_drop] at this
   simp only
   omega
theorem before_l0_eq (s:ByteArray)(sg:List ByteArray)(hs:s.size≤1000000)(from0:Int)(hf:0≤from0):∀(d:Nat) (at0:Int) (c:Bool) (k:Nat),from0≤at0→at0≤s.size→(s.size:Int)-at0≤d→5*d+5<k→∀v,lex_scanner_before.l0 k from0 s at0 v sg c=some (s.extract from0.toNat (at0+(befL d (sfx s at0) c).1).toNat,s,at0+(befL d (sfx s at0) c).1,v,(befL d (sfx s at0) c).2)
 |d,at0,c,0,_,_,_,h=>by omega
 |d,at0,c,k+1,h0,h1,hd_,hk=>fun v=>by
  by_cases hlt:at0<s.size
  · obtain ⟨d,rfl⟩:∃e,d=e+1:=⟨d-1,by omega⟩
    obtain ⟨k,rfl⟩:∃m,k=m+4:=⟨k-4,by omega⟩
    have ih:∀(n:Nat) (c1:Bool) (k:Nat),1≤n→at0+n≤s.size→5*d+5<k→lex_scanner_before.l0 k from0 s (at0+n) v sg c1=some (s.extract from0.toNat (at0+((n+(befL d ((sfx s at0).drop n) c1).1:Nat):Int)).toNat,s,at0+((n+(befL d ((sfx s at0).drop n) c1).1:Nat):Int),v,(befL d ((sfx s at0).drop n) c1).2):=fun n c1 k hn hn2 hk=>by
     have:=before_l0_eq s sg hs from0 hf d (at0+n) c1 k (by omega) (by omega) (by omega) hk v
     rw [sfx_drop s at0 n (by omega)] at this
     rw [this]
     rw [show at0+(n:Int)+((befL d ((sfx s at0).drop n) c1).1:Int)=at0+((n+(befL d ((sfx s at0).drop n) c1).1:Nat):Int) by omega]
    have hn1:=next_tot s at0 sg c hs (by omega) h1 1 (by omega) (by omega)
    have hn2:=next_tot s at0 sg c hs (by omega) h1 2 (by omega) (by omega)
    have w1:=wr (a:=at0+1) (by omega) (by omega)
    have w2:=wr (a:=at0+2) (by omega) (by omega)
    have w3:=wr (a:=at0+3) (by omega) (by omega)
    have hcm:=comment_eq s at0 sg c hs (by omega) h1
    obtain ⟨b,e1,e2,e3⟩:=sfx_cons s at0 (by omega) hlt
    have hx1:nx s (at0+1)=hd (sfx s (at0+1)):=nx_hd s _ (by omega)
    have hx2:nx s (at0+2)=hd (sfx s (at0+1)).tail:=by
     rw [nx_hd s _ (by omega),show at0+2=at0+1+1 by omega,sfx_tail s _ (by omega)]
    have hlen:=sfx_len s at0
    have hpl:∀r,pieceL (sfx s at0) c=some r→1≤r.1∧r.1≤(sfx s at0).length:=fun r hr=>pieceL_le hr
    have fin:∀r,pieceL (sfx s at0) c=some r→∀k,5*d+5<k→lex_scanner_before.l0 k from0 s (at0+(r.1:Int)) v sg r.2=some (s.extract from0.toNat (at0+(befL (d+1) (sfx s at0) c).1).toNat,s,at0+(befL (d+1) (sfx s at0) c).1,v,(befL (d+1) (sfx s at0) c).2):=fun r hr k hk=>by
     obtain ⟨p1,p2⟩:=hpl r hr
     rw [ih r.1 r.2 k p1 (by omega) hk,befL,hr]
    rw [e1] at fin hcm
    rw [e1,lex_scanner_before.l0,if_pos hlt,if_pos (by omega),e2,w1]
    have y10:((b.toNat:Int)=10)↔b=10:=u8_eq b 10 (by decide)
    have y32:((b.toNat:Int)=32)↔b=32:=u8_eq b 32 (by decide)
    have y9:((b.toNat:Int)=9)↔b=9:=u8_eq b 9 (by decide)
    have y11:((b.toNat:Int)=11)↔b=11:=u8_eq b 11 (by decide)
    have y12:((b.toNat:Int)=12)↔b=12:=u8_eq b 12 (by decide)
    have y13:((b.toNat:Int)=13)↔b=13:=u8_eq b 13 (by decide)
    have y92:((b.toNat:Int)=92)↔b=92:=u8_eq b 92 (by decide)
    simp only [y10,y32]
    by_cases q10:b=10
    · rw [if_pos q10]
      exact fin (1,true) (by rw [pieceL,if_pos q10]) _ (by omega)
    rw [if_neg q10]
    have j1:∀x51:Bool,x51=(decide (b=32∨b=9))→lex_scanner_before.j1 (k+3+1) from0 b.toNat x51 s at0 v sg c=some (s.extract from0.toNat (at0+(befL (d+1) (b::sfx s (at0+1)) c).1).toNat,s,at0+(befL (d+1) (b::sfx s (at0+1)) c).1,v,(befL (d+1) (b::sfx s (at0+1)) c).2):=fun x51 hx51=>by
     rw [lex_scanner_before.j1,w1]
     by_cases q:b=32∨b=9
     · rw [hx51,if_pos (by simpa using q)]
       exact fin (1,c) (by rw [pieceL,if_neg q10,if_pos q]) _ (by omega)
     · rw [hx51,if_neg (by simpa using q)]
       have j2:∀x65:Bool,x65=(decide (b=11∨b=12∨b=13))→lex_scanner_before.j2 (k+2+1) from0 b.toNat x65 s at0 v sg c=some (s.extract from0.toNat (at0+(befL (d+1) (b::sfx s (at0+1)) c).1).toNat,s,at0+(befL (d+1) (b::sfx s (at0+1)) c).1,v,(befL (d+1) (b::sfx s (at0+1)) c).2):=fun x65 hx65=>by
        rw [lex_scanner_before.j2,w1]
        by_cases q2:b=11∨b=12∨b=13
        · rw [hx65,if_pos (by simpa using q2)]
          exact fin (1,false) (by rw [pieceL,if_neg q10,if_neg q,if_pos q2]) _ (by omega)
        · rw [hx65,if_neg (by simpa using q2)]
          have j4:∀x104:Bool,x104=(decide (b=92∧hd (sfx s (at0+1))=13∧hd (sfx s (at0+1)).tail=10))→¬(b=92∧hd (sfx s (at0+1))=10)→lex_scanner_before.j4 (k+1) from0 x104 s at0 v sg c=some (s.extract from0.toNat (at0+(befL (d+1) (b::sfx s (at0+1)) c).1).toNat,s,at0+(befL (d+1) (b::sfx s (at0+1)) c).1,v,(befL (d+1) (b::sfx s (at0+1)) c).2):=fun x104 hx104 q3=>by
           rw [lex_scanner_before.j4,w3]
           by_cases q4:b=92∧hd (sfx s (at0+1))=13∧hd (sfx s (at0+1)).tail=10
           · rw [hx104,if_pos (by simpa using q4)]
             exact fin (3,true) (by rw [pieceL,if_neg q10,if_neg q,if_neg q2,if_neg q3,if_pos q4]) _ (by omega)
           · rw [hx104,if_neg (by simpa using q4),hcm v]
             have hP:pieceL (b::sfx s (at0+1)) c=comL c (b::sfx s (at0+1)):=by rw [pieceL,if_neg q10,if_neg q,if_neg q2,if_neg q3,if_neg q4]
             cases hC:comL c (b::sfx s (at0+1)) with
             |none=>
              simp only [Option.bind_some]
              rw [if_neg (by decide),if_pos hf,if_pos h0,if_pos h1,befL,hP,hC]
              simp
             |some r=>
              simp only [Option.bind_some,if_true]
              exact fin r (by rw [hP,hC]) _ (by omega)
          by_cases q3:b=92
          · rw [if_pos (y92.2 q3),hn1 v]
            simp only [Option.bind_some]
            rw [lex_scanner_before.j3,w2,hx1]
            by_cases q4:hd (sfx s (at0+1))=10
            · rw [if_pos (by simp [q4])]
              exact fin (2,true) (by rw [pieceL,if_neg q10,if_neg q,if_neg q2,if_pos ⟨q3,q4⟩]) _ (by omega)
            · rw [if_neg (by simp [q4]),if_pos (y92.2 q3),hn1 v]
              simp only [Option.bind_some,hx1]
              by_cases q5:hd (sfx s (at0+1))=13
              · rw [if_pos q5,hn2 v]
                simp only [Option.bind_some,hx2]
                exact j4 _ (by simp [q3,q5];rfl) (fun h=>q4 h.2)
              · rw [if_neg q5]
                exact j4 _ (by simp [q5]) (fun h=>q4 h.2)
          · rw [if_neg (fun h=>q3 (y92.1 h)),lex_scanner_before.j3,if_neg (by decide),if_neg (fun h=>q3 (y92.1 h))]
            exact j4 _ (by simp [q3]) (fun h=>q3 h.1)
       simp only [y11,y12]
       by_cases q11:b=11
       · rw [if_pos q11];exact j2 _ (by simp [q11])
       · rw [if_neg q11]
         by_cases q12:b=12
         · rw [if_pos q12];exact j2 _ (by simp [q12])
         · rw [if_neg q12];exact j2 _ (by simp only [q11,q12,false_or];rw [Bool.eq_iff_iff];simp [y13])
    by_cases q32:b=32
    · rw [if_pos q32];exact j1 _ (by simp [q32])
    · rw [if_neg q32];exact j1 _ (by simp only [q32,false_or];rw [Bool.eq_iff_iff];simp [y9])
  · have hz:befL d (sfx s at0) c=(0,c):=by
     rw [sfx_nil s at0 (by omega)]
     cases d with
     |zero=>rfl
     |succ d=>rfl
    rw [lex_scanner_before.l0,if_neg hlt,if_pos hf,if_pos (by omega),hz]
    show some (s.extract from0.toNat s.size,s,at0,v,c)=some (s.extract from0.toNat (at0+((0:Nat):Int)).toNat,s,at0+((0:Nat):Int),v,c)
    rw [show at0+((0:Nat):Int)=at0 by omega,show at0.toNat=s.size by omega]
theorem before_eq (s:ByteArray)(at0:Int)(sg:List ByteArray)(c:Bool)(hs:s.size≤1000000)(h0:0≤at0)(h1:at0≤s.size)(k:Nat)(hk:5*s.size+5<k):∀v,lex_scanner_before.f k s at0 v sg c=some (s.extract at0.toNat (at0+(befL s.size (sfx s at0) c).1).toNat,s,at0+(befL s.size (sfx s at0) c).1,v,(befL s.size (sfx s at0) c).2):=
 before_l0_eq s sg hs at0 h0 s.size at0 c k (Int.le_refl _) h1 (by omega) hk
def pickL (sg:List ByteArray)(c:Bool)(l:List UInt8):Int × Nat:=
 if 0<lineL c l then (7,lineL c l) else if 0<nameL l then (1,nameL l) else if 0<numberL l then (3,numberL l)
 else if 0<quotedL 39 l then (4,quotedL 39 l) else if 0<quotedL 34 l then (5,quotedL 34 l) else if 0<signL sg l then (6,signL sg l) else (8,1)
theorem tries_eq (s:ByteArray)(at0:Int)(sg:List ByteArray)(c:Bool)(hs:s.size≤1000000)(h0:0≤at0)(h1:at0≤s.size)(hl:sg.length≤1000000)(k:Nat)(hk:s.size+1<k)(hk2:sg.length<k):
 ∀v,tries k sg 6 0 (s,at0,v,c)=some (((pickL sg c (sfx s at0)).2:Int),(pickL sg c (sfx s at0)).1,(s,at0,v,c)):=fun v=>by
 have a0:tryAt k sg 0 (s,at0,v,c)=some ((lineL c (sfx s at0):Int),s,at0,v,c):=line_eq s at0 sg c hs h0 h1 k hk v
 have a1:tryAt k sg 1 (s,at0,v,c)=some ((nameL (sfx s at0):Int),s,at0,v,c):=name_eq s at0 sg c hs h0 h1 k (by omega) v
 have a2:tryAt k sg 2 (s,at0,v,c)=some ((numberL (sfx s at0):Int),s,at0,v,c):=number_eq s at0 sg c hs h0 h1 k hk v
 have a3:tryAt k sg 3 (s,at0,v,c)=some ((quotedL 39 (sfx s at0):Int),s,at0,v,c):=char_eq s at0 sg c hs h0 h1 k (by omega) v
 have a4:tryAt k sg 4 (s,at0,v,c)=some ((quotedL 34 (sfx s at0):Int),s,at0,v,c):=text_eq s at0 sg c hs h0 h1 k (by omega) v
 have a5:tryAt k sg 5 (s,at0,v,c)=some ((signL sg (sfx s at0):Int),s,at0,v,c):=sign_eq s at0 sg c hs h0 h1 hl k hk2 v
 unfold pickL
 rw [tries_succ,a0]
 simp only [Option.bind_some]
 by_cases q0:0<lineL c (sfx s at0)
 · rw [if_pos (by omega),if_pos q0];rfl
 rw [if_neg (by omega),if_neg q0,tries_succ,a1]
 simp only [Option.bind_some]
 by_cases q1:0<nameL (sfx s at0)
 · rw [if_pos (by omega),if_pos q1];rfl
 rw [if_neg (by omega),if_neg q1,tries_succ,a2]
 simp only [Option.bind_some]
 by_cases q2:0<numberL (sfx s at0)
 · rw [if_pos (by omega),if_pos q2];rfl
 rw [if_neg (by omega),if_neg q2,tries_succ,a3]
 simp only [Option.bind_some]
 by_cases q3:0<quotedL 39 (sfx s at0)
 · rw [if_pos (by omega),if_pos q3];rfl
 rw [if_neg (by omega),if_neg q3,tries_succ,a4]
 simp only [Option.bind_some]
 by_cases q4:0<quotedL 34 (sfx s at0)
 · rw [if_pos (by omega),if_pos q4];rfl
 rw [if_neg (by omega),if_neg q4,tries_succ,a5]
 simp only [Option.bind_some]
 by_cases q5:0<signL sg (sfx s at0)
 · rw [if_pos (by omega),if_pos q5];rfl
 rw [if_neg (by omega),if_neg q5]
 rfl
def bA (l:List UInt8):ByteArray:=⟨l.toArray⟩
theorem extract_bA (s:ByteArray)(i:Int)(n:Nat)(h0:0≤i):s.extract i.toNat (i+n).toNat=bA ((sfx s i).take n):=by
 apply Go.WideShapes.bytes_inj
 unfold bA sfx
 rw [show (i+(n:Int)).toNat=i.toNat+n by omega]
 simp [ByteArray.data_extract,Array.toList_extract,List.extract_eq_take_drop]
def tokL (kw sg:List ByteArray)(N:Nat)(at0:Int)(l:List UInt8)(c:Bool):Tk × Nat × Bool:=
 let r:=befL N l c
 let l1:=l.drop r.1
 if l1=[] then ((0,bA (l.take r.1),⟨#[]⟩,at0+r.1),r.1,r.2) else
 let p:=pickL sg r.2 l1
 ((finKind kw p.1 (bA (l1.take p.2)),bA (l.take r.1),bA (l1.take p.2),at0+r.1),r.1+p.2,false)
theorem tokD_eq (kw sg:List ByteArray)(s:ByteArray)(at0:Int)(c:Bool)(hs:s.size≤1000000)(h0:0≤at0)(h1:at0≤s.size)(hl:sg.length≤1000000):
 tokD kw sg s at0 c=((tokL kw sg s.size at0 (sfx s at0) c).1,at0+(tokL kw sg s.size at0 (sfx s at0) c).2.1,(tokL kw sg s.size at0 (sfx s at0) c).2.2):=by
 have hb:=before_eq s at0 sg c hs h0 h1 (K0 s sg) (by unfold K0;omega) .nilIface
 have hble:=befL_le s.size (sfx s at0) c
 have hlen:=sfx_len s at0
 unfold tokD tokL
 rw [hb]
 simp only
 generalize befL s.size (sfx s at0) c=r at *
 have hd:=sfx_drop s at0 r.1 h0
 have hdl:=sfx_len s (at0+r.1)
 rw [extract_bA s at0 r.1 h0]
 by_cases he:at0+(r.1:Int)=s.size
 · rw [if_pos he,if_pos (by rw [←hd];exact sfx_nil s _ (by omega))]
 · rw [if_neg he,if_neg (by
    rw [←hd]
    intro h
    rw [h] at hdl
    simp only [List.length_nil] at hdl
    omega)]
   have ht:=tries_eq s (at0+r.1) sg r.2 hs (by omega) (by omega) hl (K0 s sg) (by unfold K0;omega) (by unfold K0;omega) .nilIface
   rw [ht,←hd]
   simp only
   rw [extract_bA s (at0+r.1) _ (by omega)]
   rw [show at0+(r.1:Int)+((pickL sg r.2 (sfx s (at0+r.1))).2:Int)=at0+((r.1+(pickL sg r.2 (sfx s (at0+r.1))).2:Nat):Int) by omega]
def toksL (kw sg:List ByteArray)(N:Nat):Nat→Int→List UInt8→Bool→List Tk
 |0,_,_,_=>[]
 |f+1,at0,l,c=>if (tokL kw sg N at0 l c).1.1=0 then [(tokL kw sg N at0 l c).1] else (tokL kw sg N at0 l c).1::toksL kw sg N f (at0+(tokL kw sg N at0 l c).2.1) (l.drop (tokL kw sg N at0 l c).2.1) (tokL kw sg N at0 l c).2.2
theorem toksD_eq (kw sg:List ByteArray)(s:ByteArray)(hs:s.size≤1000000)(hl:sg.length≤1000000):∀(f:Nat) (at0:Int) (c:Bool),0≤at0→at0≤s.size→toksD kw sg s f at0 c=toksL kw sg s.size f at0 (sfx s at0) c
 |0,_,_,_,_=>rfl
 |f+1,at0,c,h0,h1=>by
  have hp:=tokD_place kw sg s at0 c hs h0 h1 hl
  rw [toksD,toksL]
  rw [tokD_eq kw sg s at0 c hs h0 h1 hl] at hp ⊢
  simp only at hp ⊢
  rw [toksD_eq kw sg s hs hl f _ _ (by omega) hp.1,sfx_drop s at0 _ h0]
end Go.Proofs.YtolaiebjmhieiaaGreatDoor.OScan
end
section
namespace Go.Proofs
open Go.Shelf
def Tryz.lays157_ren:Go.Shelf.Ren:=⟨fun|157=>117|229=>157|199=>158|261=>187|311=>200|312=>201|n=>n,fun|9=>9|31=>23|3=>3|5=>5|4=>4|119=>210|0=>0|40=>212|152=>226|21=>21|154=>228|51=>78|141=>230|196=>237|193=>234|198=>240|49=>238|194=>235|201=>243|226=>249|46=>116|227=>250|n=>n,fun|0=>0|6=>2|n=>n⟩
theorem Tryz.lays157:Go.Proofs.Lays.n157 Tryz.prog Tryz.lays157_ren:={
 mixed:=by kernel_rfl
 f157:=Tryz.func117.trans (congrArg some (by kernel_rfl))
 f199:=Tryz.func158.trans (congrArg some (by kernel_rfl))
 f229:=Tryz.func157.trans (congrArg some (by kernel_rfl))
 f261:=Tryz.func187.trans (congrArg some (by kernel_rfl))
 f311:=Tryz.func200.trans (congrArg some (by kernel_rfl))
 f312:=Tryz.func201.trans (congrArg some (by kernel_rfl))
 t0:=Tryz.underlying0
 a0:=Tryz.isAgg0
 z0:=Tryz.sizeOf0
 v0:=Tryz.zeroValue0
 t3:=Tryz.underlying3
 a3:=Tryz.isAgg3
 z3:=Tryz.sizeOf3
 v3:=Tryz.zeroValue3
 t4:=Tryz.underlying4
 a4:=Tryz.isAgg4
 z4:=Tryz.sizeOf4
 v4:=Tryz.zeroValue4
 t5:=Tryz.underlying5
 a5:=Tryz.isAgg5
 z5:=Tryz.sizeOf5
 v5:=Tryz.zeroValue5
 t9:=Tryz.underlying9
 a9:=Tryz.isAgg9
 z9:=Tryz.sizeOf9
 v9:=Tryz.zeroValue9
 t21:=Tryz.underlying21
 a21:=Tryz.isAgg21
 z21:=Tryz.sizeOf21
 v21:=Tryz.zeroValue21
 t31:=Tryz.underlying23
 a31:=Tryz.isAgg23
 z31:=Tryz.sizeOf23
 v31:=Tryz.zeroValue23
 t40:=Tryz.underlying212
 a40:=Tryz.isAgg212
 z40:=Tryz.sizeOf212
 v40:=Tryz.zeroValue212
 t46:=Tryz.underlying116
 a46:=Tryz.isAgg116
 z46:=Tryz.sizeOf116
 v46:=Tryz.zeroValue116
 t49:=Tryz.underlying238
 a49:=Tryz.isAgg238
 z49:=Tryz.sizeOf238
 v49:=Tryz.zeroValue238
 t51:=Tryz.underlying78
 a51:=Tryz.isAgg78
 z51:=Tryz.sizeOf78
 v51:=Tryz.zeroValue78
 t119:=Tryz.underlying210
 a119:=Tryz.isAgg210
 z119:=Tryz.sizeOf210
 t141:=Tryz.underlying230
 a141:=Tryz.isAgg230
 z141:=Tryz.sizeOf230
 v141:=Tryz.zeroValue230
 t152:=Tryz.underlying226
 a152:=Tryz.isAgg226
 z152:=Tryz.sizeOf226
 v152:=Tryz.zeroValue226
 t154:=Tryz.underlying228
 a154:=Tryz.isAgg228
 z154:=Tryz.sizeOf228
 v154:=Tryz.zeroValue228
 t193:=Tryz.underlying234
 a193:=Tryz.isAgg234
 z193:=Tryz.sizeOf234
 v193:=Tryz.zeroValue234
 t194:=Tryz.underlying235
 a194:=Tryz.isAgg235
 z194:=Tryz.sizeOf235
 v194:=Tryz.zeroValue235
 t196:=Tryz.underlying237
 a196:=Tryz.isAgg237
 z196:=Tryz.sizeOf237
 v196:=Tryz.zeroValue237
 t198:=Tryz.underlying240
 a198:=Tryz.isAgg240
 z198:=Tryz.sizeOf240
 v198:=Tryz.zeroValue240
 t201:=Tryz.underlying243
 a201:=Tryz.isAgg243
 z201:=Tryz.sizeOf243
 v201:=Tryz.zeroValue243
 t226:=Tryz.underlying249
 a226:=Tryz.isAgg249
 z226:=Tryz.sizeOf249
 v226:=Tryz.zeroValue249
 t227:=Tryz.underlying250
 a227:=Tryz.isAgg250
 z227:=Tryz.sizeOf250
 v227:=Tryz.zeroValue250
 g0:=by kernel_rfl
 g6:=by kernel_rfl}
open Go.RowKit Go.Lib in
theorem Tryz.strings_Fields (s:ByteArray)(w:World)(hs:s.size<4294967281)(hascii:∀(j:Nat) b,s.data.toList[j]? =some b→b.toNat<128)(htab:Lib.TabIs Tryz.prog w "strings.asciiSpace" .u8 Lib.asciiSpaceTab):
 Calls Tryz.prog 117 #[.string s] w fun e w'=>
  e= .returned (.slice (some ⟨w.heap.size,0,none⟩) (Lib.fields s.data.toList).length (Lib.fields s.data.toList).length)∧w'=w.alloc (.cells ((Lib.fields s.data.toList).map fun l=>Value.string ⟨l.toArray⟩).toArray 9):=Any.strings_Fields Tryz.lays157 (by kernel_rfl) (by kernel_rfl) s w hs hascii htab
def Tryz.lays146_ren:Go.Shelf.Ren:=⟨fun|146=>99|221=>146|268=>183|138=>184|143=>185|195=>197|197=>168|218=>198|219=>199|260=>191|217=>132|225=>204|224=>203|267=>205|266=>170|314=>206|n=>n,fun|9=>9|31=>23|3=>3|4=>4|0=>0|105=>216|21=>21|5=>5|46=>116|119=>210|139=>247|138=>246|146=>251|51=>78|n=>n,fun|1=>1|3=>3|4=>4|n=>n⟩
theorem Tryz.lays146:Go.Proofs.Lays.n146 Tryz.prog Tryz.lays146_ren:={
 mixed:=by kernel_rfl
 f138:=Tryz.func184.trans (congrArg some (by kernel_rfl))
 f143:=Tryz.func185.trans (congrArg some (by kernel_rfl))
 f146:=Tryz.func99.trans (congrArg some (by kernel_rfl))
 f195:=Tryz.func197.trans (congrArg some (by kernel_rfl))
 f197:=Tryz.func168.trans (congrArg some (by kernel_rfl))
 f217:=Tryz.func132.trans (congrArg some (by kernel_rfl))
 f218:=Tryz.func198.trans (congrArg some (by kernel_rfl))
 f219:=Tryz.func199.trans (congrArg some (by kernel_rfl))
 f221:=Tryz.func146.trans (congrArg some (by kernel_rfl))
 f224:=Tryz.func203.trans (congrArg some (by kernel_rfl))
 f225:=Tryz.func204.trans (congrArg some (by kernel_rfl))
 f260:=Tryz.func191.trans (congrArg some (by kernel_rfl))
 f266:=Tryz.func170.trans (congrArg some (by kernel_rfl))
 f267:=Tryz.func205.trans (congrArg some (by kernel_rfl))
 f268:=Tryz.func183.trans (congrArg some (by kernel_rfl))
 f314:=Tryz.func206.trans (congrArg some (by kernel_rfl))
 t0:=Tryz.underlying0
 a0:=Tryz.isAgg0
 z0:=Tryz.sizeOf0
 v0:=Tryz.zeroValue0
 t3:=Tryz.underlying3
 a3:=Tryz.isAgg3
 z3:=Tryz.sizeOf3
 v3:=Tryz.zeroValue3
 t4:=Tryz.underlying4
 a4:=Tryz.isAgg4
 z4:=Tryz.sizeOf4
 v4:=Tryz.zeroValue4
 t5:=Tryz.underlying5
 a5:=Tryz.isAgg5
 z5:=Tryz.sizeOf5
 v5:=Tryz.zeroValue5
 t9:=Tryz.underlying9
 a9:=Tryz.isAgg9
 z9:=Tryz.sizeOf9
 v9:=Tryz.zeroValue9
 t21:=Tryz.underlying21
 a21:=Tryz.isAgg21
 z21:=Tryz.sizeOf21
 v21:=Tryz.zeroValue21
 t31:=Tryz.underlying23
 a31:=Tryz.isAgg23
 z31:=Tryz.sizeOf23
 v31:=Tryz.zeroValue23
 t46:=Tryz.underlying116
 a46:=Tryz.isAgg116
 z46:=Tryz.sizeOf116
 v46:=Tryz.zeroValue116
 t51:=Tryz.underlying78
 a51:=Tryz.isAgg78
 z51:=Tryz.sizeOf78
 v51:=Tryz.zeroValue78
 t105:=Tryz.underlying216
 a105:=Tryz.isAgg216
 z105:=Tryz.sizeOf216
 v105:=Tryz.zeroValue216
 t119:=Tryz.underlying210
 a119:=Tryz.isAgg210
 z119:=Tryz.sizeOf210
 t138:=Tryz.underlying246
 a138:=Tryz.isAgg246
 z138:=Tryz.sizeOf246
 v138:=Tryz.zeroValue246
 t139:=Tryz.underlying247
 a139:=Tryz.isAgg247
 z139:=Tryz.sizeOf247
 v139:=Tryz.zeroValue247
 t146:=Tryz.underlying251
 a146:=Tryz.isAgg251
 z146:=Tryz.sizeOf251
 v146:=Tryz.zeroValue251
 g1:=by kernel_rfl
 g3:=by kernel_rfl
 g4:=by kernel_rfl}
open Go.RowKit Go.Lib in
theorem Tryz.strings_Split (s sep:ByteArray)(m:Int)(w:World)(hs:s.size<4294967281)(hm:w.cell? ⟨1,0,none⟩=some (.int .i64 m))(h1:1≤sep.size):
 Calls Tryz.prog 99 #[.string s,.string sep] w fun e w'=>
  e= .returned (.slice (some ⟨w.heap.size,0,none⟩) (Lib.countB s sep+1) (Lib.countB s sep+1))∧w'=w.alloc (.cells ((Lib.splitB sep 0 (Lib.countB s sep) s).map Value.string).toArray 9):=Any.strings_Split Tryz.lays146 (by kernel_rfl) s sep m w hs hm h1
end Go.Proofs
end
section
namespace Go.Proofs.YtolaiebjmhieiaaGreatDoor.OScan
open Go.RowKit YtolaiebjmhieiaaGreatDoorW.PrintWords YtolaiebjmhieiaaGreatDoorW.PrintLast YtolaiebjmhieiaaGreatDoorW.PrintMore
def Glob2 (w:World):Prop:=Glob w∧Lib.TabIs Tryz.prog w "strings.asciiSpace" .u8 Lib.asciiSpaceTab
theorem tabIs_below {w w':World}{name:String}{k:IntKind}{zs:List Int}(h:Lib.TabIs Tryz.prog w name k zs)(hb:Below w.heap.size w w'):Lib.TabIs Tryz.prog w' name k zs:=Lib.tabBelow_of_tabIs h w' hb
theorem Glob2.below {w0 w:World}(h:Glob2 w0)(hb:Below w0.heap.size w0 w):Glob2 w:=⟨h.1.below hb,tabIs_below h.2 hb⟩
def keyBytes:List UInt8:=[98,114,101,97,107,32,99,97,115,101,32,99,104,97,114,32,99,111,110,115,116,32,99,111,110,116,105,110,117,101,32,100,101,102,97,117,108,116,32,100,111,32,101,108,115,101,32,101,110,117,109,32,101,120,116,101,114,110,32,102,111,114,32,103,111,116,111,32,105,102,32,105,110,116,32,108,111,110,103,32,114,101,116,117,114,110,32,115,104,111,114,116,32,115,105,103,110,101,100,32,115,105,122,101,111,102,32,115,116,97,116,105,99,32,115,116,114,117,99,116,32,115,119,105,116,99,104,32,116,121,112,101,100,101,102,32,117,110,105,111,110,32,117,110,115,105,103,110,101,100,32,118,111,105,100,32,118,111,108,97,116,105,108,101,32,119,104,105,108,101]
def signBytes:List UInt8:=[46,46,46,32,60,60,61,32,62,62,61,32,60,60,32,62,62,32,60,61,32,62,61,32,61,61,32,33,61,32,38,38,32,124,124,32,43,43,32,45,45,32,43,61,32,45,61,32,42,61,32,47,61,32,37,61,32,38,61,32,124,61,32,94,61,32,45,62,32,43,32,45,32,42,32,47,32,37,32,38,32,124,32,94,32,33,32,126,32,60,32,62,32,61,32,63,32,58,32,59,32,44,32,46,32,40,32,41,32,91,32,93,32,123,32,125,32,35]
def kwL:List ByteArray:=(Lib.fields keyBytes).map fun l=>⟨l.toArray⟩
def sgL:List ByteArray:=(Lib.fields signBytes).map fun l=>⟨l.toArray⟩
theorem ascii_of {l:List UInt8}(h:l.all (fun b=>decide (b.toNat<128))=true):∀(j:Nat) b,l[j]? =some b→b.toNat<128:=fun j b hb=>by
 have:=List.all_eq_true.1 h b (List.mem_of_getElem? hb)
 simpa using this
theorem bytes_list (l:List UInt8):(⟨l.toArray⟩:ByteArray).data.toList=l:=by simp
theorem bytes_size (l:List UInt8):(⟨l.toArray⟩:ByteArray).size=l.length:=by simp [ByteArray.size]
theorem keys_any (w:World)(hG:Glob2 w):Calls Tryz.prog 65 #[] w fun e w'=>e= .returned (.slice (some ⟨w.heap.size,0,none⟩) kwL.length kwL.length)∧w'=w.alloc (.cells (kwL.map Value.string).toArray 9):=by
 have H:=Tryz.strings_Fields ⟨keyBytes.toArray⟩ w (by rw [bytes_size];decide) (by rw [bytes_list];exact ascii_of (by decide)) hG.2
 have e1:(⟨keyBytes.toArray⟩:ByteArray).data.toList=keyBytes:=by simp
 rw [e1] at H
 have e2:(Lib.fields keyBytes).length=kwL.length:=by simp [kwL]
 have e3:((Lib.fields keyBytes).map fun l=>Value.string ⟨l.toArray⟩).toArray=(kwL.map Value.string).toArray:=by simp [kwL]
 rw [e2,e3] at H
 generalize kwL=kw at *
 go_enter Tryz.func65,Tryz.ntmps65
 go_wp2_with (go_at_call 117;refine Calls.mono (show Calls Tryz.prog 117 #[.string ⟨keyBytes.toArray⟩] w _ from H) ?_;rintro e w' ⟨rfl,rfl⟩)
 go_ret
 exact ⟨rfl,rfl⟩
theorem signs_any (w:World)(hG:Glob2 w):Calls Tryz.prog 64 #[] w fun e w'=>e= .returned (.slice (some ⟨w.heap.size,0,none⟩) sgL.length sgL.length)∧w'=w.alloc (.cells (sgL.map Value.string).toArray 9):=by
 have H:=Tryz.strings_Fields ⟨signBytes.toArray⟩ w (by rw [bytes_size];decide) (by rw [bytes_list];exact ascii_of (by decide)) hG.2
 have e1:(⟨signBytes.toArray⟩:ByteArray).data.toList=signBytes:=by simp
 rw [e1] at H
 have e2:(Lib.fields signBytes).length=sgL.length:=by simp [sgL]
 have e3:((Lib.fields signBytes).map fun l=>Value.string ⟨l.toArray⟩).toArray=(sgL.map Value.string).toArray:=by simp [sgL]
 rw [e2,e3] at H
 generalize sgL=kw at *
 go_enter Tryz.func64,Tryz.ntmps64
 go_wp2_with (go_at_call 117;refine Calls.mono (show Calls Tryz.prog 117 #[.string ⟨signBytes.toArray⟩] w _ from H) ?_;rintro e w' ⟨rfl,rfl⟩)
 go_ret
 exact ⟨rfl,rfl⟩
end Go.Proofs.YtolaiebjmhieiaaGreatDoor.OScan
end
section
namespace Go.Proofs.YtolaiebjmhieiaaGreatDoor
open Go.ChangeMaps (setBlock)
open Go.RowKit YtolaiebjmhieiaaGreatDoorW.PrintWords YtolaiebjmhieiaaGreatDoorW.PrintLast YtolaiebjmhieiaaGreatDoorW.PrintMore
section
abbrev AL:=List (ByteArray × Value)
def alGet:AL→ByteArray→Option Value
 |[],_=>none
 |p::l,t=>if t==p.1 then some p.2 else alGet l t
def alPut:AL→ByteArray→Value→AL
 |[],t,v=>[(t,v)]
 |p::l,t,v=>if t==p.1 then (t,v)::l else p::alPut l t v
def pairV (p:ByteArray × Value):Value × Value:=(.string p.1,p.2)
def MapIs (W:World)(b:Nat)(l:AL):Prop:=∃es clock,W.heap[b]? =some (.map es clock)∧es.toList.map (fun e=>(e.key,e.val))=l.map pairV
theorem MapIs.lt {W:World}{b:Nat}{l:AL}(h:MapIs W b l):b<W.heap.size:=by obtain ⟨es,c,h,_⟩:=h;exact OScan.heap_lt h
theorem MapIs.same {W W':World}{b:Nat}{l:AL}(h:MapIs W b l)(hb:W'.heap[b]? =W.heap[b]?):MapIs W' b l:=by obtain ⟨es,c,h,hl⟩:=h;exact ⟨es,c,hb.trans h,hl⟩
theorem find_al (t:ByteArray):∀(es:List MapEntry) (l:AL) (i:Nat),es.map (fun e=>(e.key,e.val))=l.map pairV→
 (alGet l t=none∧Instr.findNow .string (.string t) es i=some none∧alPut l t=fun v=>l++[(t,v)])∨
 ∃(v:Value) (j:Nat) (e:MapEntry),alGet l t=some v∧Instr.findNow .string (.string t) es i=some (some (i+j,v))∧es[j]? =some e∧(∃t',e.key= .string t'∧(t==t')=true)∧
  ∀u,(es.modify j fun e=>{e with key:= .string t,val:=u}).map (fun e=>(e.key,e.val))=(alPut l t u).map pairV:=by
 intro es
 induction es with
 |nil=>intro l i h;cases l with
  |nil=>exact .inl ⟨rfl,rfl,rfl⟩
  |cons=>simp at h
 |cons e es ih=>
  intro l i h
  cases l with
  |nil=>simp at h
  |cons a l=>
   simp only [List.map_cons,List.cons.injEq,Prod.mk.injEq,pairV] at h
   obtain ⟨⟨h1,h2⟩,h3⟩:=h
   cases hta:(t==a.1)
   · rcases ih l (i+1) h3 with ⟨g1,g2,g3⟩|⟨v,j,e',g1,g2,g3,g4,g5⟩
     · refine .inl ⟨by simp only [alGet,hta];exact g1,by simp only [Instr.findNow,h1,Instr.sameNow,hta];exact g2,?_⟩
       funext v;simp only [alPut,hta,g3];rfl
     · refine .inr ⟨v,j+1,e',by simp only [alGet,hta];exact g1,?_,by simpa using g3,g4,fun u=> ?_⟩
       · simp only [Instr.findNow,h1,Instr.sameNow,hta];rw [g2];congr 3;omega
       · simp only [List.modify_succ_cons,List.map_cons,alPut,hta,Bool.false_eq_true,if_false,g5 u,pairV,h1,h2]
   · refine .inr ⟨a.2,0,e,by simp [alGet,hta],?_,rfl,⟨a.1,h1,hta⟩,fun u=> ?_⟩
     · simp only [Instr.findNow,h1,Instr.sameNow,hta,h2];rfl
     · simp only [List.modify_zero_cons,List.map_cons,alPut,hta,if_true,pairV,h3]
variable {W:World}{b:Nat}{l:AL}{mt e:TypeId}
theorem check_str (W:World)(em:Bool)(n:Nat)(t:ByteArray):(Instr.checkKey em (n+1) 9 (.string t)).run Tryz.prog W= .ok () W:=OScan.check_kw W em n t
theorem MapIs.get (h:MapIs W b l)(ht:Tryz.prog.underlying mt=some (.map 9 e))(t:ByteArray)(z:Value)(hz:∀W,(zeroValue e).run Tryz.prog W= .ok z W):(Instr.lookup mt (.map (some b)) (.string t) false).run Tryz.prog W= .ok ((alGet l t).getD z) W:=by
 obtain ⟨es,clock,hb,he⟩:=h
 have hck:=check_str W es.isEmpty 9999 t
 rcases find_al t es.toList l 0 he with ⟨g1,g2,_⟩|⟨v,j,e',g1,g2,_⟩<;>
  simp [Instr.lookup,run_underlying ht,MapKept.run_getObj_map hb,hck,Instr.findKey,run_underlying Tryz.underlying9,g1,g2,Result.andThen,hz]
theorem MapIs.getOk (h:MapIs W b l)(ht:Tryz.prog.underlying mt=some (.map 9 e))(t:ByteArray)(z:Value)(hz:∀W,(zeroValue e).run Tryz.prog W= .ok z W):(Instr.lookup mt (.map (some b)) (.string t) true).run Tryz.prog W= .ok (.tuple #[(alGet l t).getD z,.bool (alGet l t).isSome]) W:=by
 obtain ⟨es,clock,hb,he⟩:=h
 have hck:=check_str W es.isEmpty 9999 t
 rcases find_al t es.toList l 0 he with ⟨g1,g2,_⟩|⟨v,j,e',g1,g2,_⟩<;>
  simp [Instr.lookup,run_underlying ht,MapKept.run_getObj_map hb,hck,Instr.findKey,run_underlying Tryz.underlying9,g1,g2,Result.andThen,hz]
structure OnlyAt (W W':World)(b:Nat):Prop where
 os:W'.os=W.os
 tape:W'.tape=W.tape
 output:W'.output=W.output
 size:W'.heap.size=W.heap.size
 block:∀i,i≠b→W'.heap[i]? =W.heap[i]?
theorem OnlyAt.refl (W:World)(b:Nat):OnlyAt W W b:=⟨rfl,rfl,rfl,rfl,fun _ _=>rfl⟩
theorem OnlyAt.trans {W1 W2 W3:World}{b:Nat}(h:OnlyAt W1 W2 b)(k:OnlyAt W2 W3 b):OnlyAt W1 W3 b:=⟨k.os.trans h.os,k.tape.trans h.tape,k.output.trans h.output,k.size.trans h.size,fun i hi=>(k.block i hi).trans (h.block i hi)⟩
theorem OnlyAt.below {W W1 W2:World}{b:Nat}(h:Below W.heap.size W W1)(k:OnlyAt W1 W2 b)(hb:W.heap.size≤b):Below W.heap.size W W2:=
 ⟨k.os.trans h.os,k.tape.trans h.tape,k.output.trans h.output,by have:=h.size;have:=k.size;omega,fun i hi=>(k.block i (by omega)).trans (h.block i hi)⟩
theorem OnlyAt.cell {W W':World}{b:Nat}(h:OnlyAt W W' b){a:Addr}(ha:a.block≠b):W'.cell? a=W.cell? a:=by simp only [World.cell?,h.block _ ha]
theorem onlyAt_set (W:World)(b:Nat)(o:Obj):OnlyAt W (setBlock W b o) b:=⟨rfl,rfl,rfl,by simp [setBlock],fun i hi=>by simp [setBlock,Array.getElem?_setIfInBounds,Ne.symm hi]⟩
theorem MapIs.put (h:MapIs W b l)(ht:Tryz.prog.underlying mt=some (.map 9 e))(t:ByteArray)(v:Value):∃W',(Instr.mapUpdate mt (.map (some b)) (.string t) v).run Tryz.prog W= .ok () W'∧MapIs W' b (alPut l t v)∧OnlyAt W W' b:=by
 have hlt:=h.lt
 obtain ⟨es,clock,hb,he⟩:=h
 have hck:=check_str W false 9999 t
 rcases find_al t es.toList l 0 he with ⟨g1,g2,g3⟩|⟨u,j,e',g1,g2,g3,⟨t',g4,g5⟩,g6⟩
 · refine ⟨setBlock W b (.map (es.push ⟨.string t,v,clock⟩) (clock+1)),?_,⟨es.push ⟨.string t,v,clock⟩,clock+1,by simp [setBlock,hlt],?_⟩,onlyAt_set _ _ _⟩
   · simp [Instr.mapUpdate,run_underlying ht,MapKept.run_getObj_map hb,hck,Instr.findKey,run_underlying Tryz.underlying9,g2,MapKept.run_setObj_map _ hb,Result.andThen,setBlock]
   · rw [g3];simp [he,pairV]
 · have hj:es[j]? =some e':=by simpa using g3
   have hk:(Instr.keyThatStays (.string t') (.string t)).run Tryz.prog W= .ok (.string t) W:=by
    have:t=t':=(MapKept.bytes_beq _ _).1 g5
    subst this
    simp [Instr.keyThatStays,Instr.sameBits,(MapKept.bytes_beq t t).2 rfl]
   refine ⟨setBlock W b (.map (es.modify j fun e=>{e with key:= .string t,val:=v}) clock),?_,⟨es.modify j fun e=>{e with key:= .string t,val:=v},clock,by simp [setBlock,hlt],?_⟩,onlyAt_set _ _ _⟩
   · simp [Instr.mapUpdate,run_underlying ht,MapKept.run_getObj_map hb,hck,Instr.findKey,run_underlying Tryz.underlying9,g2,hj,g4,hk,MapKept.run_setObj_map _ hb,Result.andThen,setBlock]
   · rw [Array.toList_modify];exact g6 v
theorem alPut_new:∀(l:AL) (t:ByteArray) (v:Value),(∀p∈l,(t==p.1)=false)→alPut l t v=l++[(t,v)]
 |[],t,v,_=>rfl
 |p::l,t,v,h=>by
  have:=h p (List.mem_cons_self ..)
  simp only [alPut,this,Bool.false_eq_true,if_false,alPut_new l t v fun q hq=>h q (List.mem_cons_of_mem _ hq)];rfl
theorem MapIs.kw {W:World}{b:Nat}{kw:List ByteArray}(h:MapIs W b (kw.map fun t=>(t,Value.bool true))):OScan.KwMap W (.map (some b)) kw:=by
 obtain ⟨es,clock,hb,he⟩:=h
 exact ⟨b,es,clock,rfl,hb,by rw [he];simp [pairV]⟩
end
end Go.Proofs.YtolaiebjmhieiaaGreatDoor
end
section
namespace Go.Proofs.YtolaiebjmhieiaaGreatDoor.OScan
open Go.RowKit YtolaiebjmhieiaaGreatDoorW.PrintWords YtolaiebjmhieiaaGreatDoorW.PrintLast YtolaiebjmhieiaaGreatDoorW.PrintMore
theorem kw_apart:(List.range kwL.length).all (fun k=>(kwL.take k).all (fun x=> !(kwL.getD k ⟨#[]⟩==x)))=true:=by decide
theorem kw_len:kwL.length=28:=by decide
theorem sg_len:sgL.length=47:=by decide
def kwP (k:Nat):AL:=(kwL.take k).map fun t=>(t,Value.bool true)
theorem kwP_put (k:Nat)(h:k<kwL.length):alPut (kwP k) (kwL.getD k ⟨#[]⟩) (.bool true)=kwP (k+1):=by
 rw [alPut_new]
 · unfold kwP
   rw [List.take_succ_eq_append_getElem h,List.map_append]
   simp [List.getD_eq_getElem?_getD,List.getElem?_eq_getElem h]
 · intro p hp
   have h1:=List.all_eq_true.1 kw_apart k (List.mem_range.2 h)
   obtain ⟨x,hx,rfl⟩:=List.mem_map.1 hp
   have:=List.all_eq_true.1 h1 x hx
   simpa using this
theorem info95:(Tryz.prog.info? 95).map (fun i=>(i.zero,i.size,i.bytes))=some (some (.agg #[(.int .i64 0),(.string ⟨#[]⟩),(.string ⟨#[]⟩),(.int .i64 0)]),4,48):=by kernel_rfl
theorem strC (W:World)(b:Nat)(l:List ByteArray)(ty:TypeId)(hb:W.heap[b]? =some (.cells (l.map Value.string).toArray ty))(hl:l.length≤9223372036854775807):Kd.C Kd.string W (some ⟨b,0,none⟩) l.length l:=by
 refine ⟨rfl,hl,fun _=>⟨_,rfl,fun j p hp=>⟨[.string p],rfl,rfl,fun i u hu=> ?_⟩⟩⟩
 have hi:i=0:=by
  rcases i with _|i
  · rfl
  · simp at hu
 subst hi
 simp at hu
 subst hu
 rw [add_plain]
 refine (blk_cell hb _).trans ?_
 simp [Kd.string,Kd.scalar,hp]
theorem alloc_old {W:World}{i:Nat}{o x:Obj}(h:W.heap[i]? =some x):(W.alloc o).heap[i]? =some x:=(Below.heap_alloc W o i (heap_lt h)).trans h
theorem alloc_size (W:World)(o:Obj):(W.alloc o).heap.size=W.heap.size+1:=by simp
theorem alloc2_old (w:World)(o1 o2:Obj)(i:Nat)(hi:i<w.heap.size):((w.alloc o1).alloc o2).heap[i]? =w.heap[i]? :=(Below.heap_alloc _ _ _ (by rw [alloc_size];omega)).trans (Below.heap_alloc _ _ _ hi)
theorem alloc_at {W:World}{o:Obj}{i:Nat}(h:i=W.heap.size):(W.alloc o).heap[i]? =some o:=by subst h;exact blk_new W o
theorem alloc4 (w:World)(o1 o2 o3 o4:Obj):((((w.alloc o1).alloc o2).alloc o3).alloc o4).heap[w.heap.size]? =some o1∧((((w.alloc o1).alloc o2).alloc o3).alloc o4).heap[w.heap.size+1]? =some o2∧
 ((((w.alloc o1).alloc o2).alloc o3).alloc o4).heap[w.heap.size+1+1]? =some o3∧((((w.alloc o1).alloc o2).alloc o3).alloc o4).heap[w.heap.size+1+1+1]? =some o4∧((((w.alloc o1).alloc o2).alloc o3).alloc o4).heap.size=w.heap.size+1+1+1+1:=by
 refine ⟨alloc_old (alloc_old (alloc_old (alloc_at rfl))),alloc_old (alloc_old (alloc_at ?_)),alloc_old (alloc_at ?_),alloc_at ?_,?_⟩<;>simp only [alloc_size]
def kTk:Kd Tk:=Kd.pair (Kd.int .i64) (Kd.pair Kd.string (Kd.pair Kd.string (Kd.int .i64)))
theorem set_other {W:World}{b i:Nat}{o:Obj}(h:i≠b):(Go.ChangeMaps.setBlock W b o).heap[i]? =W.heap[i]? :=(onlyAt_set W b o).block i h
theorem set_at {W:World}{b:Nat}{o:Obj}(h:b<W.heap.size):(Go.ChangeMaps.setBlock W b o).heap[b]? =some o:=by simp [Go.ChangeMaps.setBlock,h]
theorem KwMap.at_ {w w':World}{v:Value}{kw:List ByteArray}(h:KwMap w v kw)(hb:Below w.heap.size w w'):KwMap w' v kw:=by
 obtain ⟨b,es,clock,rfl,hm,he⟩:=h
 exact ⟨b,es,clock,rfl,(hb.block b (heap_lt hm)).trans hm,he⟩
theorem kTk_mkM (w:World)(base:Nat)(ok:Nat→Prop)(x:Tk):kTk.M w base ok x [.int .i64 x.1,.string x.2.1,.string x.2.2.1,.int .i64 x.2.2.2]:=⟨[.int .i64 x.1],[.string x.2.1,.string x.2.2.1,.int .i64 x.2.2.2],rfl,rfl,⟨[.string x.2.1],[.string x.2.2.1,.int .i64 x.2.2.2],rfl,rfl,⟨[.string x.2.2.1],[.int .i64 x.2.2.2],rfl,rfl,rfl⟩⟩⟩
def scanR (s:ByteArray):List Tk × Int:=
 if s.size>200000 then ([],2) else
 if (toksD kwL sgL s (s.size+1) 0 true).length>40000 then ([],2) else (toksD kwL sgL s (s.size+1) 0 true,0)
theorem scan_long (s:ByteArray)(w:World)(hs:200000<s.size)(hs2:s.size≤140737488355328):
 Calls Tryz.prog 40 #[.string s] w fun e w'=>∃v,e= .returned (.tuple #[v,.int .i64 (scanR s).2])∧Kd.R kTk 95 w' w.heap.size (fun _=>True) v (scanR s).1∧Below w.heap.size w w':=by
 have hr:scanR s=([],2):=by unfold scanR;rw [if_pos hs]
 rw [hr]
 have hd:decide ((200000:Int)<(s.size:Int))=true:=decide_eq_true (by omega)
 clear hr
 go_enter Tryz.func40,Tryz.ntmps40
 go_wp2
 go_ret2
 exact ⟨_,rfl,Kd.R_nil _ _ _ _ _,Below.refl _ _⟩
theorem scan_any (s:ByteArray)(w:World)(hG:Glob2 w)(hs:s.size≤200000):
 Calls Tryz.prog 40 #[.string s] w fun e w'=>∃v,e= .returned (.tuple #[v,.int .i64 (scanR s).2])∧Kd.R kTk 95 w' w.heap.size (fun _=>True) v (scanR s).1∧Below w.heap.size w w':=by
 have hd:decide ((200000:Int)<(s.size:Int))=false:=decide_eq_false (by omega)
 have hsL:=sg_len
 have hkL:=kw_len
 have HG:=z0 hG
 clear hG
 have hmm:∀w,(Instr.makeMap 112 none).run Tryz.prog w= .ok (.map (some w.heap.size)) (w.alloc (.map #[] 0)):=fun _=>rfl
 go_enter Tryz.func40,Tryz.ntmps40
 go_wp2_with (first|(go_at_call 64;go_loud (refine (signs_any _ (HG.out.below (by exact below_alloc (Below.refl _ _) _))).mono ?_;rintro e w1 ⟨rfl,rfl⟩))|(go_at_call 65;go_loud (refine (keys_any _ (HG.out.below (by repeat (first|exact Below.refl _ _|apply below_alloc)))).mono ?_;rintro e w1 ⟨rfl,rfl⟩)))
 obtain ⟨W4,hW4⟩:∃W4,(((w.alloc (Obj.map #[] 0)).alloc (Obj.cells (List.map Value.string sgL).toArray 9)).alloc (Obj.cells #[Value.string s,Value.int IntKind.i64 0,Value.map (some w.heap.size),Value.slice (some {block:=w.heap.size+1,off:=0}) 47 47,Value.bool true] 125)).alloc (Obj.cells (List.map Value.string kwL).toArray 9)=W4:=⟨_,rfl⟩
 rw [hW4]
 have h5:=alloc4 w (Obj.map #[] 0) (Obj.cells (List.map Value.string sgL).toArray 9) (Obj.cells #[Value.string s,Value.int IntKind.i64 0,Value.map (some w.heap.size),Value.slice (some {block:=w.heap.size+1,off:=0}) 47 47,Value.bool true] 125) (Obj.cells (List.map Value.string kwL).toArray 9)
 rw [hW4] at h5
 obtain ⟨hHb,hHs,hHg,hHk,hS4'⟩:=h5
 have hB4:Aside0 (Below w.heap.size w W4):=⟨by rw [←hW4];repeat (first|exact Below.refl _ _|apply below_alloc)⟩
 have hS4:Aside0 (W4.heap.size=w.heap.size+1+1+1+1):=⟨hS4'⟩
 clear hS4'
 have hM0:Aside0 (MapIs W4 w.heap.size (kwP 0)):=⟨⟨_,_,hHb,rfl⟩⟩
 have hbs:w.heap.size<w.heap.size+1:=by omega
 have hsg:w.heap.size+1<w.heap.size+1+1:=by omega
 have hgk:w.heap.size+1+1<w.heap.size+1+1+1:=by omega
 have hWb:Aside0 (w.heap.size≤w.heap.size):=⟨Nat.le_refl _⟩
 have HW0:Aside0 (w.heap.size=w.heap.size):=⟨rfl⟩
 obtain ⟨b,hb⟩:∃b,Aside0 (w.heap.size=b):=⟨_,⟨rfl⟩⟩
 have hW4':=hW4
 clear hW4 hHb
 have hW4'':=z0 hW4'
 clear hW4'
 go_loopw [19] (fun i wr=>∃k:Nat,Aside0 (k≤28)∧i= .int .i64 k∧Aside0 (MapIs wr w.heap.size (kwP k))∧Aside0 (OnlyAt W4 wr w.heap.size)) (fun i _=>28-(intOf i).toNat)
 case atStart=>exact ⟨0,⟨by omega⟩,rfl,hM0,⟨OnlyAt.refl _ _⟩⟩
 case round=>
  obtain ⟨k,hk,rfl,hM,hO⟩:=hrel
  have hk':=hk.out
  have hcm:wr.cell? ⟨w.heap.size+1+1,2,none⟩=some (.map (some w.heap.size)):=(hO.out.cell (a:=⟨w.heap.size+1+1,2,none⟩) (by show w.heap.size+1+1≠w.heap.size;omega)).trans ((blk_cell hHg 2).trans rfl)
  by_cases hlt:k<28
  · have hkc:wr.cell? ⟨w.heap.size+1+1+1,k,none⟩=some (.string (kwL.getD k ⟨#[]⟩)):=by
     refine (hO.out.cell (a:=⟨w.heap.size+1+1+1,k,none⟩) (by show w.heap.size+1+1+1≠w.heap.size;omega)).trans ((blk_cell hHk k).trans ?_)
     simp [List.getD_eq_getElem?_getD,List.getElem?_eq_getElem (show k<kwL.length by omega)]
    obtain ⟨wN,hrun,hMN,hON⟩:=hM.out.put (mt:=112) (e:=4) Tryz.underlying112 (kwL.getD k ⟨#[]⟩) (.bool true)
    rw [kwP_put k (by omega)] at hMN
    have HMN:=z0 hMN
    have HON:=z0 (hO.out.trans hON)
    clear hMN hON
    generalize kwL.getD k ⟨#[]⟩=key at hkc hrun
    have hltI:decide ((k:Int)<28)=true:=decide_eq_true (by omega)
    go_wp2
    go_roundw
    case rel=>exact ⟨k+1,⟨by omega⟩,by go_num,HMN,HON⟩
    case measure=>simp [intOf];omega
  · have hltI:decide ((k:Int)<28)=false:=decide_eq_false (by omega)
    go_wp2
    obtain rfl:k=28:=by omega
    have hM1:=hM.out
    have hP:kwP 28=kwL.map fun t=>(t,Value.bool true):=by unfold kwP;rw [List.take_of_length_le (by omega)]
    rw [hP] at hM1
    have hO1:=hO.out
    obtain ⟨es,clock,hes,hel⟩:=hM1
    obtain ⟨w0,hw0⟩:∃w0,Aside0 (Go.ChangeMaps.setBlock ((w.alloc (Obj.map #[] 0)).alloc (Obj.cells (List.map Value.string sgL).toArray 9)) w.heap.size (.map es clock)=w0):=⟨_,⟨rfl⟩⟩
    have hsz0':w0.heap.size=w.heap.size+1+1:=by rw [←hw0.out];simp [Go.ChangeMaps.setBlock]
    have hsz0:Aside0 (w0.heap.size=w.heap.size+1+1):=⟨hsz0'⟩
    have hb0:w0.heap[w.heap.size]? =some (.map es clock):=by rw [←hw0.out];exact set_at (by simp;omega)
    have hother:∀i,i<w.heap.size+1+1→i≠w.heap.size→w0.heap[i]? =W4.heap[i]? :=by
     intro i hi hne
     rw [←hw0.out,set_other hne,←hW4''.out]
     exact (alloc2_old _ _ _ i (by rw [alloc_size,alloc_size];exact hi)).symm
    have hBs:Aside0 (Below w0.heap.size w0 wr):=⟨by
     refine ⟨?_,?_,?_,?_,?_⟩
     · rw [hO1.os,←hw0.out,←hW4''.out];rfl
     · rw [hO1.tape,←hw0.out,←hW4''.out];rfl
     · rw [hO1.output,←hw0.out,←hW4''.out];rfl
     · rw [hO1.size,hS4.out,hsz0'];omega
     · intro i hi
       rw [hsz0'] at hi
       by_cases hne:i=w.heap.size
       · subst hne;rw [hes,hb0]
       · rw [hO1.block i hne,hother i hi hne]⟩
    have hww:Aside0 (w.heap.size≤w0.heap.size):=⟨by rw [hsz0'];omega⟩
    have hB0:Below w.heap.size w w0:=by
     rw [←hw0.out]
     exact (onlyAt_set _ _ _).below (by repeat (first|exact Below.refl _ _|apply below_alloc)) (Nat.le_refl _)
    have hB0':=z0 hB0
    have hG0:Aside0 (Glob w0):=⟨HG.out.1.below hB0⟩
    have hKw:Aside0 (KwMap w0 (.map (some w.heap.size)) kwL):=⟨MapIs.kw ⟨es,clock,hb0,hel⟩⟩
    have hI0:Aside0 (IsS125 w0 wr (w.heap.size+1+1) s 0 (.map (some w.heap.size)) sgL true):=⟨by
     refine ⟨some ⟨w.heap.size+1,0,none⟩,47,?_,by rw [hsz0'];exact Nat.le_refl _,?_⟩
     · rw [hO1.block _ (by omega),hHg,hsL]
     · refine strC w0 _ _ 9 ?_ (by omega)
       rw [hother _ (by omega) (by omega),hHs]⟩
    clear hO1 hes hel hw0 hsz0' hb0 hother hB0 hHs hHg hHk hM hO hB4 hM0 hcm hmm
    go_loopg [7] (s.size+1) (fun kq v7 w'=>∃(l:List Tk) (at0:Int) (c:Bool),Aside0 (toksD kwL sgL s (s.size+1) 0 true=l++toksD kwL sgL s kq at0 c)∧Aside0 (0≤at0∧at0≤s.size∧(s.size:Int)-at0<kq)∧Aside0 (l.length≤40000)∧Aside0 (Kd.R kTk 95 w' w0.heap.size (fun k=>k≠w.heap.size+1+1) v7 l)∧Aside0 (IsS125 w0 w' (w.heap.size+1+1) s at0 (.map (some w.heap.size)) sgL c)∧Aside0 (Below w0.heap.size w0 w'))
    case atStart=>exact ⟨[],0,true,⟨rfl⟩,⟨by omega⟩,⟨by simp⟩,⟨Kd.R_nil _ _ _ _ _⟩,hI0,hBs⟩
    case round=>
     clear hI0 hBs
     obtain ⟨l,at0,c,hT,hat,hl,hR,hI,hB⟩:=hrel
     cases gk with
     |zero=>have:=hat.out;omega
     |succ k1=>
      have H66:=token_any kwL sgL s at0 (.map (some w.heap.size)) c (w.heap.size+1+1) w0 wr hI.out hB.out hG0.out (hKw.out.at_ hB.out) (by omega) hat.out.1 hat.out.2.1 (by omega)
      have hpl:=tokD_place kwL sgL s at0 c (by omega) hat.out.1 hat.out.2.1 (by omega)
      have hT1:toksD kwL sgL s (k1+1) at0 c=if (tokD kwL sgL s at0 c).1.1=0 then [(tokD kwL sgL s at0 c).1] else (tokD kwL sgL s at0 c).1::toksD kwL sgL s k1 (tokD kwL sgL s at0 c).2.1 (tokD kwL sgL s at0 c).2.2:=rfl
      have hT2:=hT.out
      rw [hT1] at hT2
      clear hT hT1
      generalize tokD kwL sgL s at0 c=r at *
      obtain ⟨⟨kd,bf,tx,a1⟩,at2,c2⟩:=r
      simp only [tkV] at H66 hpl hT2
      have HT:=z0 hT2
      have HP:=z0 hpl
      clear hT2 hpl
      have hgl:w.heap.size+1+1<wr.heap.size:=hI.out.lt
      obtain ⟨bl,hbl⟩:∃bl,Aside0 (decide ((40000:Int)<((l++[(kd,bf,tx,a1)]).length:Int))=bl):=⟨_,⟨rfl⟩⟩
      obtain ⟨bk,hbk⟩:∃bk,(kd==0)=bk:=⟨_,rfl⟩
      cases bl<;>cases bk
      all_goals go_wp2_with (first|(go_at_call 66;go_loud (refine H66.mono ?_;rintro e w5 ⟨rfl,hi5,hb5,hk5⟩;have HI5:=z0 hi5;have HB5:=z0 hb5;have HR5:=z0 (Kd.R_keep hR.out hk5 (fun k hk=>hk));clear hi5 hb5 hk5))|(at_builtin;go_loud (refine Kd.R_append kTk (w0:=w0) w0.heap.size rfl (.tmp 31) (.tmp 33) 52 95 (.agg #[(.int .i64 0),(.string ⟨#[]⟩),(.string ⟨#[]⟩),(.int .i64 0)]) 48 rfl Tryz.underlying52 info95 rfl (by decide) (by omega) u7 l (kd,bf,tx,a1) [.int .i64 kd,.string bf,.string tx,.int .i64 a1] (fun k=>k≠w.heap.size+1+1) (fun _=>False) rfl (by rw [alloc_size];rfl) (kTk_mkM _ _ _ (kd,bf,tx,a1)) (fun _ hk=>hk.elim) ?aF ?aO ?aB ?aS ?aL ?_;(case aF=>intro k hk;have hh:=HI5.out.lt;rw [alloc_size] at hk;omega);(case aO=>exact Kd.R_alloc HR5.out _);(case aB=>exact below_alloc HB5.out _);(case aS=>exact below_size (below_alloc HB5.out _));(case aL=>rw [show (48:Nat)=48 from rfl];have:=hl.out;omega);intro v1 w6 ho hb6 hg6 _;have hT8:=(hg6.block w5.heap.size (by rw [alloc_size];omega) (fun he=>absurd ((Kd.R_bound HR5.out).1 _ he.symm).2.2.1 (Nat.lt_irrefl _))).trans (blk_new w5 _);have c8:=(blk_cell hT8 0).trans rfl;clear hT8;have HI6:=z0 ((HI5.out.alloc _).grown hg6 (fun he=>HR5.out.1 _ he.symm rfl));obtain ⟨ad,cp,rfl⟩:=Kd.R_slice1 ho (by simp);obtain ⟨ln,hln⟩:∃ln,ln=(l++[(kd,bf,tx,a1)]).length:=⟨_,rfl⟩;rw [←hln];rw [←hln] at ho;have hdl:=hbl.out;rw [←hln] at hdl;have Hln:=z0 hln;clear hln;have HR6:=z0 ho;have HB6:=z0 hb6;clear ho hb6 hg6)))
      · go_roundg k1
        case measure=>omega
        case rel=>
         have h1:=HT.out
         have hk0:kd≠0:=by simpa using hbk
         rw [if_neg hk0] at h1
         have h2:=HP.out
         have h3:=h2.2.2.1 hk0
         have h4:=hat.out
         have h5:¬(40000:Int)<((l++[(kd,bf,tx,a1)]).length:Int):=of_decide_eq_false hbl.out
         exact ⟨l++[(kd,bf,tx,a1)],at2,c2,⟨by rw [h1];simp⟩,⟨by omega⟩,⟨by omega⟩,⟨HR6.out⟩,HI6,HB6⟩
      · go_ret2
        have h1:=HT.out
        have hk0:kd=0:=by simpa using hbk
        rw [if_pos hk0] at h1
        have h5:¬(40000:Int)<((l++[(kd,bf,tx,a1)]).length:Int):=of_decide_eq_false hbl.out
        have hr:scanR s=(l++[(kd,bf,tx,a1)],0):=by unfold scanR;rw [if_neg (by omega),h1,if_neg (by omega)]
        rw [hr]
        exact ⟨_,rfl,Kd.R_lower (Kd.R_mono HR6.out fun _ _=>trivial) hww.out,below_then hB0'.out hww.out HB6.out⟩
      all_goals
       go_ret2
       have h1:=HT.out
       have h5:(40000:Int)<((l++[(kd,bf,tx,a1)]).length:Int):=of_decide_eq_true hbl.out
       have h6:(l++[(kd,bf,tx,a1)]).length≤(toksD kwL sgL s (s.size+1) 0 true).length:=by
        rw [h1];split<;>simp
       have hr:scanR s=([],2):=by unfold scanR;rw [if_neg (by omega),if_pos (by omega)]
       rw [hr]
       exact ⟨_,rfl,Kd.R_nil _ _ _ _ _,below_then hB0'.out hww.out HB6.out⟩
def wPlace (add:Int)(a:Int):Int:=wrap64 (wrap64 (a-1)+add)
def wFrom (a:Int):Int:=wrap64 (wrap64 (a-1)+1)
def wordsGo (rec_:ByteArray→Int→Option (List Tk))(s:ByteArray)(add:Int):List Tk→List Tk→Option (List Tk)
 |[],out=>some out
 |t::l,out=>
  if t.1=7 then
   if 0≤wFrom t.2.2.2∧wFrom t.2.2.2≤s.size then (rec_ (s.extract (wFrom t.2.2.2).toNat s.size) (wrap64 (add+wFrom t.2.2.2))).bind fun r=>if r.length≤1000000 then some ((out++[(6,t.2.1,⟨#[35]⟩,wPlace add t.2.2.2)])++r) else none else none
  else wordsGo rec_ s add l (out++[(t.1,t.2.1,t.2.2.1,wPlace add t.2.2.2)])
def wordsF:Nat→ByteArray→Int→Option (List Tk)
 |0,_,_=>none
 |k+1,s,add=>
  let r:=scanR (⟨#[40]⟩++s)
  if r.2=0 then (if 2≤r.1.length∧r.1.length≤1000000 then wordsGo (wordsF k) s add ((r.1.take (r.1.length-1)).drop 1) [] else none) else some []
theorem tk_at {w:World}{A:Option Addr}{n:Nat}{xs:List Tk}(h:Kd.C kTk w A n xs)(i:Nat)(h1:i<n)(x:Tk)(hx:xs[i]? =some x):∃ad,A=some ad∧w.cell? (ad.add (i*4))=some (.int .i64 x.1)∧w.cell? ⟨(ad.add (i*4)).block,(ad.add (i*4)).off+1,none⟩=some (.string x.2.1)∧w.cell? ⟨(ad.add (i*4)).block,(ad.add (i*4)).off+2,none⟩=some (.string x.2.2.1)∧w.cell? ⟨(ad.add (i*4)).block,(ad.add (i*4)).off+3,none⟩=some (.int .i64 x.2.2.2):=by
 obtain ⟨ad,c,e,_,hK,hc0⟩:=Kd.C_get h x i (by omega) (by omega)
 have hxi:xs.getD (i:Int).toNat x=x:=by simp [List.getD_eq_getElem?_getD,hx]
 rw [hxi] at hK
 have hc:∀j u,c[j]? =some u→w.cell? (ad.add (i*4+j))=some u:=hc0
 obtain ⟨_,_,rfl,rfl,⟨_,_,rfl,rfl,⟨_,_,rfl,rfl,rfl⟩⟩⟩:=hK
 exact ⟨ad,e,hc 0 _ rfl,by rw [←add_field _ _ 1 (by omega)];exact hc 1 _ rfl,by rw [←add_field _ _ 2 (by omega)];exact hc 2 _ rfl,by rw [←add_field _ _ 3 (by omega)];exact hc 3 _ rfl⟩
theorem scan_both (s:ByteArray)(w:World)(hG:Glob2 w)(hs:s.size≤140737488355328):
 Calls Tryz.prog 40 #[.string s] w fun e w'=>∃v,e= .returned (.tuple #[v,.int .i64 (scanR s).2])∧Kd.R kTk 95 w' w.heap.size (fun _=>True) v (scanR s).1∧Below w.heap.size w w':=by
 by_cases hl:s.size≤200000
 · exact scan_any s w hG hl
 · exact scan_long s w (by omega) hs
theorem info95':∃i,Tryz.prog.info? 95=some i∧i.size=4:=by
 obtain ⟨i,hi,h⟩:=Option.map_eq_some_iff.1 info95
 simp only [Prod.mk.injEq] at h
 exact ⟨i,hi,h.2.1⟩
theorem words_any (k:Nat):∀(s:ByteArray) (add:Int) (r:List Tk) (w:World),Glob2 w→s.size≤140737488355000→wordsF k s add=some r→
 Calls Tryz.prog 126 #[.string s,.int .i64 add] w fun e w'=>∃v,e= .returned v∧Kd.R kTk 95 w' w.heap.size (fun _=>True) v r∧Below w.heap.size w w':=by
 induction k with
 |zero=>intro s add r w hG hs h;simp [wordsF] at h
 |succ k ih=>
  intro s add r w hG hs h
  have hsz:(⟨#[40]⟩++s:ByteArray).size=s.size+1:=by rw [ByteArray.size_append];have:(⟨#[40]⟩:ByteArray).size=1:=rfl;omega
  have H40:=scan_both (⟨#[40]⟩++s) w hG (by omega)
  simp only [wordsF] at h
  generalize scanR (⟨#[40]⟩++s)=sr at *
  obtain ⟨ys,er⟩:=sr
  simp only at H40 h
  have HG:=z0 hG
  clear hG
  have q1:1+s.size≤9223372036854775807:=by omega
  have q2:(9223372036854775807<1+s.size)=False:=eq_false (by omega)
  by_cases he:er=0
  · rw [if_pos he] at h
    by_cases hl:2≤ys.length∧ys.length≤1000000
    · rw [if_pos hl] at h
      have hE:(er !=0)=false:=by simp [he]
      have hE2:(er==0)=true:=by simp [he]
      have HR0:=z0 h
      clear h he
      have hzl:((ys.take (ys.length-1)).drop 1).length=ys.length-1-1:=by rw [List.length_drop,List.length_take];omega
      obtain ⟨zs,hzs⟩:∃zs,Aside0 ((ys.take (ys.length-1)).drop 1=zs):=⟨_,⟨rfl⟩⟩
      rw [hzs.out] at hzl HR0
      have HZ:=z0 hzl
      clear hzl
      have hn1:wrap64 ((ys.length:Int)-1)=(ys.length:Int)-1:=wr (by omega) (by omega)
      have HW1:Aside0 (∀j:Nat,j≤1000000→wrap64 ((j:Int)+1)=(j:Int)+1):=⟨fun j hj=>wr (by omega) (by omega)⟩
      have hn2:IntKind.i64.wrap ((ys.length:Int)-1)=(ys.length:Int)-1:=IntWalk.i64_in _ (by omega)
      go_enter Tryz.func126,Tryz.ntmps126
      go_wp2_with (go_at_call 40;go_loud (refine H40.mono ?_;rintro e w8 ⟨v,rfl,hR,hb⟩;obtain ⟨Ao,co,rfl⟩:=Kd.R_slice hR;have HR:=z0 hR;have HB8:=z0 hb;clear hR hb;obtain ⟨i0,hi0,hi1⟩:=info95';have hroom:=(Kd.R_reads' HR.out).2.1;have hcut:=cut_mid (P:=Tryz.prog) 52 95 .i64 .i64 Tryz.underlying52 hi0 4 hi1 Ao ys.length co 1 ((ys.length:Int)-1) (by omega) (by omega) (by omega) hroom;have hmid:=Kd.C_mid (lo:=1) (hi:=ys.length-1) (c:=co) (Kd.R_reads' HR.out).2.2 (by omega) (by omega) hroom;rw [hzs.out] at hmid;have e1:((ys.length:Int)-1).toNat-(1:Int).toNat=zs.length:=(by first|(rw [HZ.out];done)|(have h9:=HZ.out;omega));rw [e1] at hcut;obtain ⟨A1,hA1⟩:∃A1,A1=(if co=(1:Int).toNat then Ao else Ao.map (·.add ((1:Int).toNat*4))):=⟨_,rfl⟩;rw [←hA1] at hcut;have HC:=z0 (show Kd.C kTk w8 A1 zs.length zs from by rw [hA1];exact hmid);obtain ⟨c1,hc1⟩:∃c1,c1=co-(1:Int).toNat:=⟨_,rfl⟩;rw [←hc1] at hcut;clear hA1 hc1 hmid e1 hroom hi0 hi1))
      have HWW:=z0 HB8.out.size
      have HG8:=z0 (HG.out.below HB8.out)
      clear hcut HR H40
      go_loopg [7,26] zs.length (fun kq v7 v26 w'=>∃(i:Nat) (out:List Tk),v26= .int .i64 i∧Aside0 (kq+i=zs.length)∧Aside0 (wordsGo (wordsF k) s add (zs.drop i) out=some r)∧Aside0 (out.length=i)∧Aside0 (Kd.R kTk 95 w' w8.heap.size (fun _=>True) v7 out)∧Aside0 (Below w8.heap.size w8 w'))
      case atStart=>exact ⟨0,[],rfl,⟨rfl⟩,HR0,⟨rfl⟩,⟨Kd.R_nil _ _ _ _ _⟩,⟨Below.refl _ _⟩⟩
      case round=>
       clear HR0
       obtain ⟨i,out,rfl,hki,HW,hol,hR,hB⟩:=hrel
       have hki':=hki.out
       cases gk with
       |zero=>
        have hlt:decide ((i:Int)<(zs.length:Int))=false:=decide_eq_false (by omega)
        have hn:zs.drop i=[]:=List.drop_eq_nil_of_le (by omega)
        have H:=HW.out
        rw [hn] at H
        simp only [wordsGo] at H
        obtain rfl:=Option.some.inj H
        clear H hn
        go_wp2
        go_ret
        exact ⟨_,rfl,Kd.R_lower hR.out HWW.out,below_then HB8.out HWW.out hB.out⟩
       |succ g1=>
        have hlt:decide ((i:Int)<(zs.length:Int))=true:=decide_eq_true (by omega)
        have hiz:i<zs.length:=by omega
        obtain ⟨x,hx⟩:∃x,zs[i]? =some x:=⟨_,List.getElem?_eq_getElem hiz⟩
        have hdr:zs.drop i=x::zs.drop (i+1):=by
         rw [List.drop_eq_getElem_cons hiz]
         rw [List.getElem?_eq_getElem hiz] at hx
         rw [Option.some.inj hx]
        have H:=HW.out
        rw [hdr] at H
        obtain ⟨ad,rfl,hx0,hx1,hx2,hx3⟩:=tk_at HC.out i hiz x hx
        replace hx0:=(hB.out.cell (World.block_lt_of_cell? w8 _ hx0)).trans hx0
        replace hx1:=(hB.out.cell (World.block_lt_of_cell? w8 _ hx1)).trans hx1
        replace hx2:=(hB.out.cell (World.block_lt_of_cell? w8 _ hx2)).trans hx2
        replace hx3:=(hB.out.cell (World.block_lt_of_cell? w8 _ hx3)).trans hx3
        clear hx hdr
        obtain ⟨kd,bf,tx,a1⟩:=x
        simp only at hx0 hx1 hx2 hx3
        simp only [wordsGo] at H
        have hii:(0:Int)≤(i:Int):=by omega
        by_cases hk:kd=7
        · rw [if_pos hk] at H
          by_cases hf:0≤wFrom a1∧wFrom a1≤s.size
          · rw [if_pos hf] at H
            obtain ⟨r2,hr2,H⟩:=Option.bind_eq_some_iff.1 H
            by_cases hl2:r2.length≤1000000
            · rw [if_pos hl2] at H
              obtain rfl:=Option.some.inj H
              have hsz2:(s.extract (wFrom a1).toNat s.size).size≤140737488355000:=by rw [ByteArray.size_extract];omega
              have hIH:=z0 (fun w' hG'=>ih _ _ r2 w' hG' hsz2 hr2)
              have hkb:(kd==7)=true:=by simpa using hk
              have p1:(0≤wrap64 (wrap64 (a1-1)+1))=True:=eq_true hf.1
              have p2:(wrap64 (wrap64 (a1-1)+1)≤(s.size:Int))=True:=eq_true hf.2
              have p3:decide (0≤wrap64 (wrap64 (a1-1)+1))=true:=decide_eq_true hf.1
              have p4:decide (wrap64 (wrap64 (a1-1)+1)≤(s.size:Int))=true:=decide_eq_true hf.2
              have HL2:=z0 hl2
              clear H hk hf hr2 hl2
              go_wp2_with (first|(at_builtin;go_loud (refine Kd.R_append kTk (w0:=w8) w8.heap.size rfl (.tmp 48) (.tmp 50) 52 95 (.agg #[(.int .i64 0),(.string ⟨#[]⟩),(.string ⟨#[]⟩),(.int .i64 0)]) 48 rfl Tryz.underlying52 info95 rfl (by decide) (by omega) u7 out (6,bf,⟨#[35]⟩,wPlace add a1) [.int .i64 6,.string bf,.string ⟨#[35]⟩,.int .i64 (wPlace add a1)] (fun _=>True) (fun _=>False) rfl (by rw [alloc_size];rfl) (kTk_mkM _ _ _ (6,bf,⟨#[35]⟩,wPlace add a1)) (fun _ hk=>hk.elim) (fun _ _=>trivial) ?aO ?aB ?aS ?aL ?_;(case aO=>exact Kd.R_alloc hR.out _);(case aB=>exact below_alloc hB.out _);(case aS=>exact below_size (below_alloc hB.out _));(case aL=>have:=hol.out;have h9:=HZ.out;omega);intro v1 w6 ho hb6 hg6 _;have HR6:=z0 ho;have HB6:=z0 hb6;clear ho hb6 hg6))|(go_at_call 126;go_loud (refine (hIH.out _ (HG8.out.below HB6.out)).mono ?_;rintro e w9 ⟨v9,rfl,hr9,hb9⟩;obtain ⟨A9,c9,rfl⟩:=Kd.R_slice hr9;have HR9:=z0 hr9;have HR7:=z0 (Kd.R_below HR6.out hb9);have HB9:=z0 (below_step HB6.out hb9);clear hr9 hb9))|(at_builtin;go_loud (refine Kd.R_append_rows kTk (w0:=w8) w8.heap.size rfl (.tmp 53) (.tmp 60) 52 95 (.agg #[(.int .i64 0),(.string ⟨#[]⟩),(.string ⟨#[]⟩),(.int .i64 0)]) 48 rfl Tryz.underlying52 info95 rfl (by decide) (by omega) v1 (out++[(6,bf,⟨#[35]⟩,wPlace add a1)]) r2 A9 r2.length c9 (fun _=>True) (fun _=>False) rfl rfl HR7.out (Kd.R_reads' HR9.out).2.2 (fun _ _ h=>h) (fun _ h=>h.elim) (fun _ _=>trivial) HB9.out (below_size HB9.out) ?aL ?_;(case aL=>have h9:=HZ.out;have h1:=hol.out;have h2:=HL2.out;rw [List.length_append];simp only [List.length_cons,List.length_nil];omega);intro v10 w10 ho hb10 hg10 _;have HR10:=z0 ho;have HB10:=z0 hb10;clear ho hb10 hg10)))
              go_ret
              exact ⟨_,rfl,Kd.R_lower HR10.out HWW.out,below_then HB8.out HWW.out HB10.out⟩
            · rw [if_neg hl2] at H;simp at H
          · rw [if_neg hf] at H;simp at H
        · rw [if_neg hk] at H
          have HN:=z0 H
          have hkb:(kd==7)=false:=by simpa using hk
          clear H hk
          go_wp2_with (at_builtin;go_loud (refine Kd.R_append kTk (w0:=w8) w8.heap.size rfl (.tmp 48) (.tmp 50) 52 95 (.agg #[(.int .i64 0),(.string ⟨#[]⟩),(.string ⟨#[]⟩),(.int .i64 0)]) 48 rfl Tryz.underlying52 info95 rfl (by decide) (by omega) u7 out (kd,bf,tx,wPlace add a1) [.int .i64 kd,.string bf,.string tx,.int .i64 (wPlace add a1)] (fun _=>True) (fun _=>False) rfl (by rw [alloc_size];rfl) (kTk_mkM _ _ _ (kd,bf,tx,wPlace add a1)) (fun _ hk=>hk.elim) (fun _ _=>trivial) ?aO ?aB ?aS ?aL ?_;(case aO=>exact Kd.R_alloc hR.out _);(case aB=>exact below_alloc hB.out _);(case aS=>exact below_size (below_alloc hB.out _));(case aL=>have:=hol.out;have h9:=HZ.out;omega);intro v1 w6 ho hb6 hg6 _;have HR6:=z0 ho;have HB6:=z0 hb6;clear ho hb6 hg6))
          go_roundg g1
          case measure=>first|omega|(have h9:=HZ.out;omega)
          case rel=>exact ⟨i+1,out++[(kd,bf,tx,wPlace add a1)],by (have h9:(i:Int)+1≤1000000:=(by have h8:=HZ.out;omega);rw [HW1.out i (by omega)];first|rfl|(simp;done)|go_num),⟨by omega⟩,HN,⟨by simp [hol.out]⟩,HR6,HB6⟩
    · rw [if_neg hl] at h;simp at h
  · rw [if_neg he] at h
    obtain rfl:=Option.some.inj h
    have hE:(er !=0)=true:=by simp [he]
    have hE2:(er==0)=false:=by simp [he]
    clear h he
    go_enter Tryz.func126,Tryz.ntmps126
    go_wp2_with (go_at_call 40;go_loud (refine H40.mono ?_;rintro e w8 ⟨v,rfl,hR,hb⟩;have HB8:=z0 hb;clear hR hb))
    go_ret
    exact ⟨_,rfl,Kd.R_nil _ _ _ _ _,HB8.out⟩
end Go.Proofs.YtolaiebjmhieiaaGreatDoor.OScan
end
section
namespace Go.Proofs.YtolaiebjmhieiaaGreatDoor.ORef
open Go.RowKit YtolaiebjmhieiaaGreatDoorW.PrintWords YtolaiebjmhieiaaGreatDoorW.PrintLast YtolaiebjmhieiaaGreatDoorW.PrintMore
attribute [local go_sem] max2_int min2_int max_two min_two max_three min_three max_four min_four
theorem info9:(Tryz.prog.info? 9).map (fun i=>(i.zero,i.size,i.bytes))=some (some (.string ⟨#[]⟩),1,16):=by kernel_rfl
theorem info95:(Tryz.prog.info? 95).map (fun i=>(i.zero,i.size,i.bytes))=some (some (.agg #[(.int .i64 0),(.string ⟨#[]⟩),(.string ⟨#[]⟩),(.int .i64 0)]),4,48):=by kernel_rfl
structure S95 where
 f0:Int
 f1:ByteArray
 f2:ByteArray
 f3:Int
def k95:Kd S95:=Kd.iso (Kd.pair (Kd.int .i64) (Kd.pair Kd.string (Kd.pair Kd.string (Kd.int .i64)))) (fun x:S95=>(x.f0,x.f1,x.f2,x.f3))
theorem k95_mkM (w:World)(base:Nat)(ok:Nat→Prop)(x:S95):k95.M w base ok x [.int .i64 x.f0,.string x.f1,.string x.f2,.int .i64 x.f3]:=⟨[.int .i64 x.f0],[.string x.f1,.string x.f2,.int .i64 x.f3],rfl,rfl,⟨[.string x.f1],[.string x.f2,.int .i64 x.f3],rfl,rfl,⟨[.string x.f2],[.int .i64 x.f3],rfl,rfl,rfl⟩⟩⟩
structure S146 where
 f0:(List Int)
 f1:Int
 f2:Int
 f3:Int
structure S46 where
 f0:ByteArray
 f1:ByteArray
def z46:S46:=⟨(⟨#[]⟩:ByteArray),(⟨#[]⟩:ByteArray)⟩
def k46:Kd S46:=Kd.iso (Kd.pair Kd.string Kd.string) (fun x:S46=>(x.f0,x.f1))
theorem k46_open {w:World}{x:S46}{cs:List Value}(h:k46.K w x cs):cs=[.string x.f0,.string x.f1]:=by
 obtain ⟨_,_,rfl,rfl,rfl⟩:=h
 exact rfl
def rd_T46 (xs:List S46)(i:Int):S46:=xs.getD i.toNat z46
theorem at_T46 {w:World}{A:Option Addr}{n:Nat}{xs:List S46}(h:Kd.C k46 w A n xs)(i:Int)(h0:0≤i)(h1:i<n):∃ad,A=some ad∧w.cell? (ad.add (i.toNat*2))=some (.string (rd_T46 xs i).f0)∧w.cell? ⟨(ad.add (i.toNat*2)).block,(ad.add (i.toNat*2)).off+1,none⟩=some (.string (rd_T46 xs i).f1):=by
 obtain ⟨ad,c,e,_,hK,hc0⟩:=Kd.C_get h z46 i h0 h1
 have hc:∀j u,c[j]? =some u→w.cell? (ad.add (i.toNat*2+j))=some u:=hc0
 obtain rfl:=k46_open hK
 exact ⟨ad,e,hc 0 _ rfl,by rw [←add_field _ _ 1 (by omega)];exact hc 1 _ rfl⟩
def smockingref02_byteAt.f (a0:ByteArray)(a1:Int):Option (Int):=if a1<0 then (some 0) else (if a1≥(a0.size:Int) then (some 0) else (if 0≤a1 then (if a1<(a0.size:Int) then (some (bt a0 a1)) else (none)) else (none)))
theorem smockingref02_byteAt.calls (a0:ByteArray)(a1:Int)(r:Int)(w:World)(h:smockingref02_byteAt.f a0 a1=some r):
 Calls Tryz.prog 173 #[.string a0,.int .i64 a1] w fun e w'=>e= .returned (.int .u8 r)∧Drawn0 w w':=by
 have H:=h
 clear h
 unfold smockingref02_byteAt.f at H
 replace H:=zd H
 rcases H with ⟨c3b0,H⟩|⟨c3b0,H⟩
 · obtain rfl:=Option.some.inj H
   go_enter Tryz.func173,Tryz.ntmps173
   go_wp2
   go_ret
   exact ⟨zr,zq⟩
 · replace H:=zg H
   rcases H with ⟨c4b0,H⟩|⟨c4b0,H⟩
   · obtain rfl:=Option.some.inj H
     go_enter Tryz.func173,Tryz.ntmps173
     go_wp2
     go_ret
     exact ⟨zr,zq⟩
   · replace H:=zdn H
     obtain ⟨c5b0,H⟩:=H
     replace H:=zdn H
     obtain ⟨c6b0,H⟩:=H
     obtain rfl:=Option.some.inj H
     obtain ⟨p7,q7,hx7⟩:=zb a0 a1
     go_enter Tryz.func173,Tryz.ntmps173
     go_wp2
     go_ret
     exact ⟨zr,zq⟩
def smockingref02_begins.f (a0:ByteArray)(a1:Int)(a2:ByteArray):Option (Bool):=if (wrap64 ((a0.size:Int)-a1))≥(a2.size:Int) then (if 0≤a1 then (if a1≤(wrap64 (a1+(a2.size:Int))) then (if (wrap64 (a1+(a2.size:Int)))≤(a0.size:Int) then (some ((a0.extract (a1:Int).toNat ((wrap64 (a1+(a2.size:Int))):Int).toNat).toList==a2.toList)) else (none)) else (none)) else (none)) else (some false)
theorem smockingref02_begins.calls (a0:ByteArray)(a1:Int)(a2:ByteArray)(r:Bool)(w:World)(h:smockingref02_begins.f a0 a1 a2=some r):
 Calls Tryz.prog 194 #[.string a0,.int .i64 a1,.string a2] w fun e w'=>e= .returned (.bool r)∧Drawn0 w w':=by
 have H:=h
 clear h
 unfold smockingref02_begins.f at H
 replace H:=zg H
 rcases H with ⟨c4b0,H⟩|⟨c4b0,H⟩
 · replace H:=zyn H
   obtain ⟨c5b0,c5b1,H⟩:=H
   replace H:=zxn H
   obtain ⟨c6,c6b0,c6b1,H⟩:=H
   replace H:=zxn H
   obtain ⟨c7,c7b0,c7b1,H⟩:=H
   obtain rfl:=Option.some.inj H
   go_enter Tryz.func194,Tryz.ntmps194
   go_wp2
   go_ret
   exact ⟨zr,zq⟩
 · obtain rfl:=Option.some.inj H
   go_enter Tryz.func194,Tryz.ntmps194
   go_wp2
   go_ret
   exact ⟨zr,zq⟩
mutual
def smockingref02_comment.l0:Nat→ByteArray→Int→Option (Int)
 |0,_,_=>none
 |k+1,x0,x1=>if x1<(x0.size:Int) then (if 0≤x1 then (if (bt x0 x1)=10 then (some x1) else (smockingref02_comment.l0 k x0 (wrap64 (x1+1)))) else (none)) else (some x1)
def smockingref02_comment.l1:Nat→ByteArray→Int→Option (Int)
 |0,_,_=>none
 |k+1,x0,x5=>if x5<(x0.size:Int) then ((smockingref02_begins.f x0 x5 (⟨#[42,47]⟩:ByteArray)).bind fun t103=>(if t103=true then (some (wrap64 (x5+2))) else (smockingref02_comment.l1 k x0 (wrap64 (x5+1))))) else (some (x0.size:Int))
end
def smockingref02_comment.f (k:Nat)(a0:ByteArray)(a1:Int):Option (Int):=(smockingref02_begins.f a0 a1 (⟨#[47,47]⟩:ByteArray)).bind fun t101=>(if t101=true then (smockingref02_comment.l0 k a0 a1) else ((smockingref02_begins.f a0 a1 (⟨#[47,42]⟩:ByteArray)).bind fun t102=>(if t102=true then (smockingref02_comment.l1 k a0 (wrap64 (a1+2))) else (some a1))))
theorem smockingref02_comment.calls (k:Nat)(a0:ByteArray)(a1:Int)(r:Int)(w:World)(h:smockingref02_comment.f k a0 a1=some r):
 Calls Tryz.prog 174 #[.string a0,.int .i64 a1] w fun e w'=>e= .returned (.int .i64 r)∧Drawn0 w w':=by
 have H:=h
 clear h
 unfold smockingref02_comment.f at H
 replace H:=zo H
 obtain ⟨t101,A3,H⟩:=H
 (try dsimp only at H)
 by_cases c4:t101=true
 · subst c4
   rw [if_pos rfl] at H
   have H':=z0 H
   clear H
   go_enter Tryz.func174,Tryz.ntmps174
   go_wp2_with (first|(refine zc 8 rfl Tryz.func194 #[.string a0,.int .i64 a1,.string (⟨#[47,47]⟩:ByteArray)] ?_;refine za (smockingref02_begins.calls a0 a1 (⟨#[47,47]⟩:ByteArray) true _ A3.out) fun nd=> ?_))
   (try go_simp)
   go_loopg [1] k (fun kq v1 w'=>∃(x1_1:Int),v1= .int .i64 x1_1∧Aside0 (smockingref02_comment.l0 kq a0 x1_1=some r)∧Aside0 (kq≤k)∧Drawn0 w w')
   case atStart=>exact ⟨(a1),zr,H',⟨Nat.le_refl _⟩,zq⟩
   case round=>
    clear H'
    (try clear c1);(try clear p2);(try clear c4)
    obtain ⟨x1_1,rfl,HA,HK1,⟨m1,rfl⟩⟩:=hrel
    cases gk with
    |zero=>exact absurd HA.out (by simp [smockingref02_comment.l0])
    |succ k1=>
     have H:=HA.out
     clear HA
     simp only [smockingref02_comment.l0] at H
     replace H:=zd H
     rcases H with ⟨c5b0,H⟩|⟨c5b0,H⟩
     · replace H:=zdn H
       obtain ⟨c6b0,H⟩:=H
       replace H:=ze H
       rcases H with ⟨c8b0,c8b1,H⟩|⟨c8b0,c8b1,H⟩
       · obtain rfl:=Option.some.inj H
         obtain ⟨p7,q7,hx7⟩:=zb a0 x1_1
         go_wp2
         go_ret
         exact ⟨zr,zq⟩
       · have H':=z0 H
         clear H
         obtain ⟨p7,q7,hx7⟩:=zb a0 x1_1
         go_wp2
         go_roundg k1
         case measure=>have:=HK1.out;omega
         case rel=>exact ⟨(wrap64 (x1_1+1)),zr,H',⟨by have:=HK1.out;omega⟩,zq⟩
     · obtain rfl:=Option.some.inj H
       go_wp2
       go_ret
       exact ⟨zr,zq⟩
 · replace c4:=Bool.eq_false_iff.mpr c4
   subst c4
   rw [if_neg nofun] at H
   replace H:=zo H
   obtain ⟨t102,A9,H⟩:=H
   (try dsimp only at H)
   by_cases c10:t102=true
   · subst c10
     rw [if_pos rfl] at H
     have H':=z0 H
     clear H
     go_enter Tryz.func174,Tryz.ntmps174
     go_wp2_with (first|(refine zc 8 rfl Tryz.func194 #[.string a0,.int .i64 a1,.string (⟨#[47,47]⟩:ByteArray)] ?_;refine za (smockingref02_begins.calls a0 a1 (⟨#[47,47]⟩:ByteArray) false _ A3.out) fun nd=> ?_)|(refine zc 24 rfl Tryz.func194 #[.string a0,.int .i64 a1,.string (⟨#[47,42]⟩:ByteArray)] ?_;refine za (smockingref02_begins.calls a0 a1 (⟨#[47,42]⟩:ByteArray) true _ A9.out) fun nd=> ?_))
     (try go_simp)
     go_loopg [5] k (fun kq v5 w'=>∃(x5_1:Int),v5= .int .i64 x5_1∧Aside0 (smockingref02_comment.l1 kq a0 x5_1=some r)∧Aside0 (kq≤k)∧Drawn0 w w')
     case atStart=>exact ⟨(wrap64 (a1+2)),zr,H',⟨Nat.le_refl _⟩,zq⟩
     case round=>
      clear H'
      (try clear c1);(try clear p2);(try clear c4);(try clear c5);(try clear c5b0);(try clear c6);(try clear c6b0);(try clear p6);(try clear p7);(try clear q7);(try clear hx7);(try clear c8);(try clear c8b0);(try clear c8b1);(try clear c10);(try clear p2);(try clear p7);(try clear q7)
      obtain ⟨x5_1,rfl,HA,HK1,⟨m1,rfl⟩⟩:=hrel
      cases gk with
      |zero=>exact absurd HA.out (by simp [smockingref02_comment.l1])
      |succ k1=>
       have H:=HA.out
       clear HA
       simp only [smockingref02_comment.l1] at H
       replace H:=zd H
       rcases H with ⟨c11b0,H⟩|⟨c11b0,H⟩
       · replace H:=zo H
         obtain ⟨t103,A12,H⟩:=H
         (try dsimp only at H)
         by_cases c13:t103=true
         · subst c13
           rw [if_pos rfl] at H
           obtain rfl:=Option.some.inj H
           go_wp2_with (first|(refine zc 35 rfl Tryz.func194 #[.string a0,.int .i64 x5_1,.string (⟨#[42,47]⟩:ByteArray)] ?_;refine za (smockingref02_begins.calls a0 x5_1 (⟨#[42,47]⟩:ByteArray) true _ A12.out) fun nd=> ?_))
           go_ret
           exact ⟨zr,zq⟩
         · replace c13:=Bool.eq_false_iff.mpr c13
           subst c13
           rw [if_neg nofun] at H
           have H':=z0 H
           clear H
           go_wp2_with (first|(refine zc 35 rfl Tryz.func194 #[.string a0,.int .i64 x5_1,.string (⟨#[42,47]⟩:ByteArray)] ?_;refine za (smockingref02_begins.calls a0 x5_1 (⟨#[42,47]⟩:ByteArray) false _ A12.out) fun nd=> ?_))
           go_roundg k1
           case measure=>have:=HK1.out;omega
           case rel=>exact ⟨(wrap64 (x5_1+1)),zr,H',⟨by have:=HK1.out;omega⟩,zq⟩
       · obtain rfl:=Option.some.inj H
         go_wp2
         go_ret
         exact ⟨zr,zq⟩
   · replace c10:=Bool.eq_false_iff.mpr c10
     subst c10
     rw [if_neg nofun] at H
     obtain rfl:=Option.some.inj H
     go_enter Tryz.func174,Tryz.ntmps174
     go_wp2_with (first|(refine zc 8 rfl Tryz.func194 #[.string a0,.int .i64 a1,.string (⟨#[47,47]⟩:ByteArray)] ?_;refine za (smockingref02_begins.calls a0 a1 (⟨#[47,47]⟩:ByteArray) false _ A3.out) fun nd=> ?_)|(refine zc 24 rfl Tryz.func194 #[.string a0,.int .i64 a1,.string (⟨#[47,42]⟩:ByteArray)] ?_;refine za (smockingref02_begins.calls a0 a1 (⟨#[47,42]⟩:ByteArray) false _ A9.out) fun nd=> ?_))
     go_ret
     exact ⟨zr,zq⟩
def smockingref02_piece.j0:Nat→ByteArray→Int→Int→Bool→Option (Int)
 |0,_,_,_,_=>none
 |k+1,x0,x1,x7,x8=>if x8=true then (some (wrap64 (x1+1))) else (if x7=92 then ((smockingref02_byteAt.f x0 (wrap64 (x1+1))).bind fun t105=>(if t105=10 then (some (wrap64 (x1+2))) else ((smockingref02_byteAt.f x0 (wrap64 (x1+1))).bind fun t106=>(if t106=13 then ((smockingref02_byteAt.f x0 (wrap64 (x1+2))).bind fun t107=>(if t107=10 then (some (wrap64 (x1+3))) else (some x1))) else (some x1))))) else ((smockingref02_comment.f k x0 x1).bind fun t108=>(some t108)))
def smockingref02_piece.f (k:Nat)(a0:ByteArray)(a1:Int):Option (Int):=(smockingref02_byteAt.f a0 a1).bind fun t104=>(if t104=32 then (smockingref02_piece.j0 k a0 a1 t104 (t104==32)) else (if t104=9 then (smockingref02_piece.j0 k a0 a1 t104 (t104==9)) else (if t104=10 then (smockingref02_piece.j0 k a0 a1 t104 (t104==10)) else (if t104=11 then (smockingref02_piece.j0 k a0 a1 t104 (t104==11)) else (if t104=12 then (smockingref02_piece.j0 k a0 a1 t104 (t104==12)) else (smockingref02_piece.j0 k a0 a1 t104 (t104==13)))))))
theorem smockingref02_piece.calls (k:Nat)(a0:ByteArray)(a1:Int)(r:Int)(w:World)(h:smockingref02_piece.f k a0 a1=some r):
 Calls Tryz.prog 138 #[.string a0,.int .i64 a1] w fun e w'=>e= .returned (.int .i64 r)∧Drawn0 w w':=by
 have H:=h
 clear h
 unfold smockingref02_piece.f at H
 replace H:=zo H
 obtain ⟨t104,A3,H⟩:=H
 (try dsimp only at H)
 have HC4:=z0 H
 clear H
 go_enter Tryz.func138,Tryz.ntmps138
 go_upto_if 8 with (first|(refine zc 7 rfl Tryz.func173 #[.string a0,.int .i64 a1] ?_;refine za (smockingref02_byteAt.calls a0 a1 t104 _ A3.out) fun nd=> ?_))
 (try simp only [Act.put,List.setIfInBounds_toArray,List.set_cons_zero,List.set_cons_succ])
 go_cut [8] (fun v8 wc=>∃(kq:Nat) (x8_3:Bool),v8= .bool x8_3∧Aside0 (smockingref02_piece.j0 kq a0 a1 t104 x8_3=some r)∧Aside0 (kq≤k)∧Drawn0 w wc)
 case first=>
  have H:=HC4.out
  clear HC4
  replace H:=ze H
  rcases H with ⟨c5b0,c5b1,H⟩|⟨c5b0,c5b1,H⟩
  · (first|rw [c5b0]|(simp only [i64_w,i32_w];rw [c5b0])|skip)
    have H':=z0 H
    clear H
    go_wp2
    go_meet
    case rel=>exact ⟨_,((t104==32)),zr,H',⟨by first|omega|exact Nat.le_refl _⟩,zq⟩
  · (first|rw [c5b0]|(simp only [i64_w,i32_w];rw [c5b0])|skip)
    replace H:=ze H
    rcases H with ⟨c6b0,c6b1,H⟩|⟨c6b0,c6b1,H⟩
    · have H':=z0 H
      clear H
      go_wp2
      go_meet
      case rel=>exact ⟨_,((t104==9)),zr,H',⟨by first|omega|exact Nat.le_refl _⟩,zq⟩
    · replace H:=ze H
      rcases H with ⟨c7b0,c7b1,H⟩|⟨c7b0,c7b1,H⟩
      · have H':=z0 H
        clear H
        go_wp2
        go_meet
        case rel=>exact ⟨_,((t104==10)),zr,H',⟨by first|omega|exact Nat.le_refl _⟩,zq⟩
      · replace H:=ze H
        rcases H with ⟨c8b0,c8b1,H⟩|⟨c8b0,c8b1,H⟩
        · have H':=z0 H
          clear H
          go_wp2
          go_meet
          case rel=>exact ⟨_,((t104==11)),zr,H',⟨by first|omega|exact Nat.le_refl _⟩,zq⟩
        · replace H:=ze H
          rcases H with ⟨c9b0,c9b1,H⟩|⟨c9b0,c9b1,H⟩
          · have H':=z0 H
            clear H
            go_wp2
            go_meet
            case rel=>exact ⟨_,((t104==12)),zr,H',⟨by first|omega|exact Nat.le_refl _⟩,zq⟩
          · have H':=z0 H
            clear H
            go_wp2
            go_meet
            case rel=>exact ⟨_,((t104==13)),zr,H',⟨by first|omega|exact Nat.le_refl _⟩,zq⟩
 case rest=>
  clear HC4
  (try clear c1);(try clear p2);(try clear c5);(try clear c5b0);(try clear c5b1);(try clear c6);(try clear c6b0);(try clear c6b1);(try clear c7);(try clear c7b0);(try clear c7b1);(try clear c8);(try clear c8b0);(try clear c8b1);(try clear c9);(try clear c9b0);(try clear c9b1)
  obtain ⟨kq,x8_3,rfl,HA,HJ3,⟨mc3,rfl⟩⟩:=hcut
  cases kq with
  |zero=>exact absurd HA.out (by simp [smockingref02_piece.j0])
  |succ kj3=>
   have H:=HA.out
   clear HA
   simp only [smockingref02_piece.j0] at H
   by_cases c10:x8_3=true
   · subst c10
     rw [if_pos rfl] at H
     obtain rfl:=Option.some.inj H
     go_wp2
     go_ret
     exact ⟨zr,zq⟩
   · replace c10:=Bool.eq_false_iff.mpr c10
     subst c10
     rw [if_neg nofun] at H
     replace H:=ze H
     rcases H with ⟨c11b0,c11b1,H⟩|⟨c11b0,c11b1,H⟩
     · replace H:=zo H
       obtain ⟨t105,A12,H⟩:=H
       (try dsimp only at H)
       replace H:=ze H
       rcases H with ⟨c13b0,c13b1,H⟩|⟨c13b0,c13b1,H⟩
       · obtain rfl:=Option.some.inj H
         go_wp2_with (first|(refine zc 22 rfl Tryz.func173 #[.string a0,.int .i64 (wrap64 (a1+1))] ?_;refine za (smockingref02_byteAt.calls a0 (wrap64 (a1+1)) t105 _ A12.out) fun nd=> ?_))
         go_ret
         exact ⟨zr,zq⟩
       · replace H:=zo H
         obtain ⟨t106,A14,H⟩:=H
         (try dsimp only at H)
         replace H:=ze H
         rcases H with ⟨c15b0,c15b1,H⟩|⟨c15b0,c15b1,H⟩
         · replace H:=zo H
           obtain ⟨t107,A16,H⟩:=H
           (try dsimp only at H)
           replace H:=ze H
           rcases H with ⟨c17b0,c17b1,H⟩|⟨c17b0,c17b1,H⟩
           · obtain rfl:=Option.some.inj H
             go_wp2_with (first|(refine zc 22 rfl Tryz.func173 #[.string a0,.int .i64 (wrap64 (a1+1))] ?_;refine za (smockingref02_byteAt.calls a0 (wrap64 (a1+1)) t105 _ A12.out) fun nd=> ?_)|(refine zc 29 rfl Tryz.func173 #[.string a0,.int .i64 (wrap64 (a1+1))] ?_;refine za (smockingref02_byteAt.calls a0 (wrap64 (a1+1)) t106 _ A14.out) fun nd=> ?_)|(go_at_call 173;(with_reducible refine (smockingref02_byteAt.calls a0 (wrap64 (a1+2)) t107 _ A16.out).mono ?_);rintro e w' ⟨rfl,⟨nd,rfl⟩⟩))
             go_ret
             exact ⟨zr,zq⟩
           · obtain rfl:=Option.some.inj H
             go_wp2_with (first|(refine zc 22 rfl Tryz.func173 #[.string a0,.int .i64 (wrap64 (a1+1))] ?_;refine za (smockingref02_byteAt.calls a0 (wrap64 (a1+1)) t105 _ A12.out) fun nd=> ?_)|(refine zc 29 rfl Tryz.func173 #[.string a0,.int .i64 (wrap64 (a1+1))] ?_;refine za (smockingref02_byteAt.calls a0 (wrap64 (a1+1)) t106 _ A14.out) fun nd=> ?_)|(go_at_call 173;(with_reducible refine (smockingref02_byteAt.calls a0 (wrap64 (a1+2)) t107 _ A16.out).mono ?_);rintro e w' ⟨rfl,⟨nd,rfl⟩⟩))
             go_ret
             exact ⟨zr,zq⟩
         · obtain rfl:=Option.some.inj H
           go_wp2_with (first|(refine zc 22 rfl Tryz.func173 #[.string a0,.int .i64 (wrap64 (a1+1))] ?_;refine za (smockingref02_byteAt.calls a0 (wrap64 (a1+1)) t105 _ A12.out) fun nd=> ?_)|(refine zc 29 rfl Tryz.func173 #[.string a0,.int .i64 (wrap64 (a1+1))] ?_;refine za (smockingref02_byteAt.calls a0 (wrap64 (a1+1)) t106 _ A14.out) fun nd=> ?_))
           go_ret
           exact ⟨zr,zq⟩
     · replace H:=zo H
       obtain ⟨t108,A18,H⟩:=H
       (try dsimp only at H)
       obtain rfl:=Option.some.inj H
       go_wp2_with (first|(refine zc 43 rfl Tryz.func174 #[.string a0,.int .i64 a1] ?_;refine za (smockingref02_comment.calls kj3 a0 a1 t108 _ A18.out) fun nd=> ?_))
       go_ret
       exact ⟨zr,zq⟩
def smockingref02_line.l0:Nat→ByteArray→Int→Int→Option (Int)
 |0,_,_,_=>none
 |k+1,x0,x1,x5=>if x5<(x0.size:Int) then (if 0≤x5 then (if (bt x0 x5)=10 then (if 0≤(wrap64 (x5-1)) then (if (wrap64 (x5-1))<(x0.size:Int) then (if (bt x0 (wrap64 (x5-1)))=92 then (smockingref02_line.l0 k x0 x1 (wrap64 (x5+1))) else (if (wrap64 (x5-2))≥x1 then (if (bt x0 (wrap64 (x5-1)))=13 then (if 0≤(wrap64 (x5-2)) then (if (wrap64 (x5-2))<(x0.size:Int) then (if ((bt x0 (wrap64 (x5-2)))=92) then (smockingref02_line.l0 k x0 x1 (wrap64 (x5+1))) else (if (wrap64 (x5-1))>x1 then (some (wrap64 (x5-1))) else (some x5))) else (none)) else (none)) else (if (wrap64 (x5-1))>x1 then (some x5) else (some x5))) else (if (wrap64 (x5-1))>x1 then (if (bt x0 (wrap64 (x5-1)))=13 then (some (wrap64 (x5-1))) else (some x5)) else (some x5)))) else (none)) else (none)) else (smockingref02_line.l0 k x0 x1 (wrap64 (x5+1)))) else (none)) else (some x5)
def smockingref02_line.f (k:Nat)(a0:ByteArray)(a1:Int):Option (Int):=smockingref02_line.l0 k a0 a1 a1
theorem smockingref02_line.calls (k:Nat)(a0:ByteArray)(a1:Int)(r:Int)(w:World)(h:smockingref02_line.f k a0 a1=some r):
 Calls Tryz.prog 175 #[.string a0,.int .i64 a1] w fun e w'=>e= .returned (.int .i64 r)∧Drawn0 w w':=by
 have H:=h
 clear h
 unfold smockingref02_line.f at H
 have H':=z0 H
 clear H
 go_enter Tryz.func175,Tryz.ntmps175
 go_wp2
 (try go_simp)
 go_loopg [5] k (fun kq v5 w'=>∃(x5_1:Int),v5= .int .i64 x5_1∧Aside0 (smockingref02_line.l0 kq a0 a1 x5_1=some r)∧Aside0 (kq≤k)∧Drawn0 w w')
 case atStart=>exact ⟨(a1),zr,H',⟨Nat.le_refl _⟩,zq⟩
 case round=>
  clear H'
  (try clear c1);(try clear p2)
  obtain ⟨x5_1,rfl,HA,HK1,⟨m1,rfl⟩⟩:=hrel
  cases gk with
  |zero=>exact absurd HA.out (by simp [smockingref02_line.l0])
  |succ k1=>
   have H:=HA.out
   clear HA
   simp only [smockingref02_line.l0] at H
   replace H:=zd H
   rcases H with ⟨c3b0,H⟩|⟨c3b0,H⟩
   · replace H:=zdn H
     obtain ⟨c4b0,H⟩:=H
     replace H:=ze H
     rcases H with ⟨c6b0,c6b1,H⟩|⟨c6b0,c6b1,H⟩
     · generalize hji7:(wrap64 (x5_1-1))=ji7 at H
       have hji7w:(IntKind.i64.wrap (x5_1-1))=ji7:=(i64_w _).trans hji7
       replace H:=zdn H
       obtain ⟨c8b0,H⟩:=H
       replace H:=zdn H
       obtain ⟨c9b0,H⟩:=H
       replace H:=ze H
       rcases H with ⟨c11b0,c11b1,H⟩|⟨c11b0,c11b1,H⟩
       · have H':=z0 H
         clear H
         obtain ⟨p5,q5,hx5⟩:=zb a0 x5_1
         obtain ⟨p10,q10,hx10⟩:=zb a0 (ji7)
         go_wp2
         go_roundg k1
         case measure=>have:=HK1.out;omega
         case rel=>exact ⟨(wrap64 (x5_1+1)),zr,H',⟨by have:=HK1.out;omega⟩,zq⟩
       · replace H:=zg H
         rcases H with ⟨c12b0,H⟩|⟨c12b0,H⟩
         · replace H:=ze H
           rcases H with ⟨c14b0,c14b1,H⟩|⟨c14b0,c14b1,H⟩
           · generalize hji15:(wrap64 (x5_1-2))=ji15 at H
             (try rw [hji15] at c12b0)
             have hji15w:(IntKind.i64.wrap (x5_1-2))=ji15:=(i64_w _).trans hji15
             replace H:=zdn H
             obtain ⟨c16b0,H⟩:=H
             replace H:=zdn H
             obtain ⟨c17b0,H⟩:=H
             replace H:=ze H
             rcases H with ⟨c19b0,c19b1,H⟩|⟨c19b0,c19b1,H⟩
             · have H':=z0 H
               clear H
               obtain ⟨p5,q5,hx5⟩:=zb a0 x5_1
               obtain ⟨p10,q10,hx10⟩:=zb a0 (ji7)
               obtain ⟨p18,q18,hx18⟩:=zb a0 (ji15)
               go_wp2
               go_roundg k1
               case measure=>have:=HK1.out;omega
               case rel=>exact ⟨(wrap64 (x5_1+1)),zr,H',⟨by have:=HK1.out;omega⟩,zq⟩
             · replace H:=zt H
               rcases H with ⟨c20b0,H⟩|⟨c20b0,H⟩
               · obtain rfl:=Option.some.inj H
                 obtain ⟨p5,q5,hx5⟩:=zb a0 x5_1
                 obtain ⟨p10,q10,hx10⟩:=zb a0 (ji7)
                 obtain ⟨p18,q18,hx18⟩:=zb a0 (ji15)
                 go_wp2
                 go_ret
                 exact ⟨by first|rfl|(simp;done)|(simp only [←hji7,←hji15]<;>(first|rfl|simp))|(simp [*];done),zq⟩
               · obtain rfl:=Option.some.inj H
                 obtain ⟨p5,q5,hx5⟩:=zb a0 x5_1
                 obtain ⟨p10,q10,hx10⟩:=zb a0 (ji7)
                 obtain ⟨p18,q18,hx18⟩:=zb a0 (ji15)
                 go_wp2
                 go_ret
                 exact ⟨by first|rfl|(simp;done)|(simp only [←hji7,←hji15]<;>(first|rfl|simp))|(simp [*];done),zq⟩
           · replace H:=zt H
             rcases H with ⟨c22b0,H⟩|⟨c22b0,H⟩
             · obtain rfl:=Option.some.inj H
               obtain ⟨p5,q5,hx5⟩:=zb a0 x5_1
               obtain ⟨p10,q10,hx10⟩:=zb a0 (ji7)
               go_wp2
               go_ret
               exact ⟨by first|rfl|(simp;done)|(simp only [←hji7]<;>(first|rfl|simp))|(simp [*];done),zq⟩
             · obtain rfl:=Option.some.inj H
               obtain ⟨p5,q5,hx5⟩:=zb a0 x5_1
               obtain ⟨p10,q10,hx10⟩:=zb a0 (ji7)
               go_wp2
               go_ret
               exact ⟨by first|rfl|(simp;done)|(simp only [←hji7]<;>(first|rfl|simp))|(simp [*];done),zq⟩
         · replace H:=zt H
           rcases H with ⟨c24b0,H⟩|⟨c24b0,H⟩
           · replace H:=ze H
             rcases H with ⟨c26b0,c26b1,H⟩|⟨c26b0,c26b1,H⟩
             · obtain rfl:=Option.some.inj H
               obtain ⟨p5,q5,hx5⟩:=zb a0 x5_1
               obtain ⟨p10,q10,hx10⟩:=zb a0 (ji7)
               go_wp2
               go_ret
               exact ⟨by first|rfl|(simp;done)|(simp only [←hji7]<;>(first|rfl|simp))|(simp [*];done),zq⟩
             · obtain rfl:=Option.some.inj H
               obtain ⟨p5,q5,hx5⟩:=zb a0 x5_1
               obtain ⟨p10,q10,hx10⟩:=zb a0 (ji7)
               go_wp2
               go_ret
               exact ⟨by first|rfl|(simp;done)|(simp only [←hji7]<;>(first|rfl|simp))|(simp [*];done),zq⟩
           · obtain rfl:=Option.some.inj H
             obtain ⟨p5,q5,hx5⟩:=zb a0 x5_1
             obtain ⟨p10,q10,hx10⟩:=zb a0 (ji7)
             go_wp2
             go_ret
             exact ⟨by first|rfl|(simp;done)|(simp only [←hji7]<;>(first|rfl|simp))|(simp [*];done),zq⟩
     · have H':=z0 H
       clear H
       obtain ⟨p5,q5,hx5⟩:=zb a0 x5_1
       go_wp2
       go_roundg k1
       case measure=>have:=HK1.out;omega
       case rel=>exact ⟨(wrap64 (x5_1+1)),zr,H',⟨by have:=HK1.out;omega⟩,zq⟩
   · obtain rfl:=Option.some.inj H
     go_wp2
     go_ret
     exact ⟨zr,zq⟩
def smockingref02_letter.f (a0:Int):Option (Bool):=if a0≥97 then (if a0≤122 then (some true) else (if a0≥65 then (if a0≤90 then (some true) else (some (a0==95))) else (some (a0==95)))) else (if a0≥65 then (if a0≤90 then (some true) else (some (a0==95))) else (some (a0==95)))
theorem smockingref02_letter.calls (a0:Int)(r:Bool)(w:World)(h:smockingref02_letter.f a0=some r):
 Calls Tryz.prog 176 #[.int .u8 a0] w fun e w'=>e= .returned (.bool r)∧Drawn0 w w':=by
 have H:=h
 clear h
 unfold smockingref02_letter.f at H
 replace H:=zg H
 rcases H with ⟨c2b0,H⟩|⟨c2b0,H⟩
 · replace H:=zd H
   rcases H with ⟨c3b0,H⟩|⟨c3b0,H⟩
   · obtain rfl:=Option.some.inj H
     go_enter Tryz.func176,Tryz.ntmps176
     go_wp2
     go_ret
     exact ⟨zr,zq⟩
   · replace H:=zg H
     rcases H with ⟨c4b0,H⟩|⟨c4b0,H⟩
     · replace H:=zd H
       rcases H with ⟨c5b0,H⟩|⟨c5b0,H⟩
       · obtain rfl:=Option.some.inj H
         go_enter Tryz.func176,Tryz.ntmps176
         go_wp2
         go_ret
         exact ⟨zr,zq⟩
       · obtain rfl:=Option.some.inj H
         go_enter Tryz.func176,Tryz.ntmps176
         go_wp2
         go_ret
         exact ⟨zr,zq⟩
     · obtain rfl:=Option.some.inj H
       go_enter Tryz.func176,Tryz.ntmps176
       go_wp2
       go_ret
       exact ⟨zr,zq⟩
 · replace H:=zg H
   rcases H with ⟨c6b0,H⟩|⟨c6b0,H⟩
   · replace H:=zd H
     rcases H with ⟨c7b0,H⟩|⟨c7b0,H⟩
     · obtain rfl:=Option.some.inj H
       go_enter Tryz.func176,Tryz.ntmps176
       go_wp2
       go_ret
       exact ⟨zr,zq⟩
     · obtain rfl:=Option.some.inj H
       go_enter Tryz.func176,Tryz.ntmps176
       go_wp2
       go_ret
       exact ⟨zr,zq⟩
   · obtain rfl:=Option.some.inj H
     go_enter Tryz.func176,Tryz.ntmps176
     go_wp2
     go_ret
     exact ⟨zr,zq⟩
def smockingref00_Has.l0:Nat→List ByteArray→ByteArray→Int→Option (Int)
 |0,_,_,_=>none
 |k+1,x0,x1,x5=>if x5<(x0.length:Int) then (if 0≤x5 then (if (rdOf ByteArray.empty x0 x5).toList=x1.toList then (some x5) else (smockingref00_Has.l0 k x0 x1 (wrap64 (x5+1)))) else (none)) else (some (-1))
def smockingref00_Has.f (k:Nat)(l0:List ByteArray)(a1:ByteArray):Option (Int):=smockingref00_Has.l0 k l0 a1 0
theorem smockingref00_Has.calls (k:Nat)(A0:Option Addr)(c0:Nat)(l0:List ByteArray)(a1:ByteArray)(r:Int)(w:World)(hr0:Kd.C Kd.string w A0 l0.length l0)(hc0:l0.length≤c0)(h:smockingref00_Has.f k l0 a1=some r):
 Calls Tryz.prog 19 #[.slice A0 l0.length c0,.string a1] w fun e w'=>e= .returned (.int .i64 r)∧Drawn0 w w':=by
 have HR0:=z0 hr0
 have HC0:=z0 hc0
 clear hr0 hc0
 have H:=h
 clear h
 unfold smockingref00_Has.f at H
 have H':=z0 H
 clear H
 go_enter Tryz.func19,Tryz.ntmps19
 go_wp2
 (try go_simp)
 go_loopg [5] k (fun kq v5 w'=>∃(x5_1:Int),v5= .int .i64 x5_1∧Aside0 (smockingref00_Has.l0 kq l0 a1 x5_1=some r)∧Aside0 (kq≤k)∧Drawn0 w w')
 case atStart=>exact ⟨(0),zr,H',⟨Nat.le_refl _⟩,zq⟩
 case round=>
  clear H'
  (try clear c1);(try clear p2)
  obtain ⟨x5_1,rfl,HA,HK1,⟨m1,rfl⟩⟩:=hrel
  cases gk with
  |zero=>exact absurd HA.out (by simp [smockingref00_Has.l0])
  |succ k1=>
   have H:=HA.out
   clear HA
   simp only [smockingref00_Has.l0] at H
   replace H:=zd H
   rcases H with ⟨c3b0,H⟩|⟨c3b0,H⟩
   · replace H:=zdn H
     obtain ⟨c4b0,H⟩:=H
     replace H:=zE H
     rcases H with ⟨c5b0,c5b1,H⟩|⟨c5b0,c5b1,H⟩
     · obtain rfl:=Option.some.inj H
       have p109:0≤(x5_1:Int):=of_decide_eq_true (by first|(with_reducible assumption)|assumption)
       have q109:x5_1<(l0.length:Int):=of_decide_eq_true (by first|(with_reducible assumption)|assumption)
       obtain ⟨ad109,e109,hx109_0⟩:=Kd.at_string HR0.out x5_1 p109 q109
       cases e109
       replace p109:=eq_true p109
       replace q109:=eq_true q109
       go_wp2
       go_ret
       exact ⟨zr,zq⟩
     · have H':=z0 H
       clear H
       have p109:0≤(x5_1:Int):=of_decide_eq_true (by first|(with_reducible assumption)|assumption)
       have q109:x5_1<(l0.length:Int):=of_decide_eq_true (by first|(with_reducible assumption)|assumption)
       obtain ⟨ad109,e109,hx109_0⟩:=Kd.at_string HR0.out x5_1 p109 q109
       cases e109
       replace p109:=eq_true p109
       replace q109:=eq_true q109
       go_wp2
       go_roundg k1
       case measure=>have:=HK1.out;omega
       case rel=>exact ⟨(wrap64 (x5_1+1)),zr,H',⟨by have:=HK1.out;omega⟩,zq⟩
   · obtain rfl:=Option.some.inj H
     go_wp2
     go_ret
     exact ⟨zr,zq⟩
def smockingref02_digit.f (a0:Int):Option (Bool):=if a0≥48 then (some (decide (a0≤57))) else (some false)
theorem smockingref02_digit.calls (a0:Int)(r:Bool)(w:World)(h:smockingref02_digit.f a0=some r):
 Calls Tryz.prog 178 #[.int .u8 a0] w fun e w'=>e= .returned (.bool r)∧Drawn0 w w':=by
 have H:=h
 clear h
 unfold smockingref02_digit.f at H
 replace H:=zg H
 rcases H with ⟨c2b0,H⟩|⟨c2b0,H⟩
 · obtain rfl:=Option.some.inj H
   go_enter Tryz.func178,Tryz.ntmps178
   go_wp2
   go_ret
   exact ⟨zr,zq⟩
 · obtain rfl:=Option.some.inj H
   go_enter Tryz.func178,Tryz.ntmps178
   go_wp2
   go_ret
   exact ⟨zr,zq⟩
def smockingref02_Keys.f:Option (List ByteArray):=some (([(⟨#[98,114,101,97,107]⟩:ByteArray),(⟨#[99,97,115,101]⟩:ByteArray),(⟨#[99,104,97,114]⟩:ByteArray),(⟨#[99,111,110,115,116]⟩:ByteArray),(⟨#[99,111,110,116,105,110,117,101]⟩:ByteArray),(⟨#[100,101,102,97,117,108,116]⟩:ByteArray),(⟨#[100,111]⟩:ByteArray),(⟨#[101,108,115,101]⟩:ByteArray),(⟨#[101,110,117,109]⟩:ByteArray),(⟨#[101,120,116,101,114,110]⟩:ByteArray),(⟨#[102,111,114]⟩:ByteArray),(⟨#[103,111,116,111]⟩:ByteArray),(⟨#[105,102]⟩:ByteArray),(⟨#[105,110,116]⟩:ByteArray),(⟨#[108,111,110,103]⟩:ByteArray),(⟨#[114,101,116,117,114,110]⟩:ByteArray),(⟨#[115,104,111,114,116]⟩:ByteArray),(⟨#[115,105,103,110,101,100]⟩:ByteArray),(⟨#[115,105,122,101,111,102]⟩:ByteArray),(⟨#[115,116,97,116,105,99]⟩:ByteArray),(⟨#[115,116,114,117,99,116]⟩:ByteArray),(⟨#[115,119,105,116,99,104]⟩:ByteArray),(⟨#[116,121,112,101,100,101,102]⟩:ByteArray),(⟨#[117,110,105,111,110]⟩:ByteArray),(⟨#[117,110,115,105,103,110,101,100]⟩:ByteArray),(⟨#[118,111,105,100]⟩:ByteArray),(⟨#[118,111,108,97,116,105,108,101]⟩:ByteArray),(⟨#[119,104,105,108,101]⟩:ByteArray)]:List ByteArray))
theorem smockingref02_Keys.calls (r:List ByteArray)(w:World)(h:smockingref02_Keys.f=some r):
 Calls Tryz.prog 195 #[] w fun e w'=>∃v0_:Value,e= .returned (v0_)∧Kd.R Kd.string 9 w' w.heap.size (fun _=>True) v0_ r∧Below w.heap.size w w':=by
 have HB:=z0 (Below.refl w.heap.size w)
 have H:=h
 clear h
 unfold smockingref02_Keys.f at H
 obtain ⟨y110,hy110⟩:∃y_:List ByteArray,y_=(([(⟨#[98,114,101,97,107]⟩:ByteArray),(⟨#[99,97,115,101]⟩:ByteArray),(⟨#[99,104,97,114]⟩:ByteArray),(⟨#[99,111,110,115,116]⟩:ByteArray),(⟨#[99,111,110,116,105,110,117,101]⟩:ByteArray),(⟨#[100,101,102,97,117,108,116]⟩:ByteArray),(⟨#[100,111]⟩:ByteArray),(⟨#[101,108,115,101]⟩:ByteArray),(⟨#[101,110,117,109]⟩:ByteArray),(⟨#[101,120,116,101,114,110]⟩:ByteArray),(⟨#[102,111,114]⟩:ByteArray),(⟨#[103,111,116,111]⟩:ByteArray),(⟨#[105,102]⟩:ByteArray),(⟨#[105,110,116]⟩:ByteArray),(⟨#[108,111,110,103]⟩:ByteArray),(⟨#[114,101,116,117,114,110]⟩:ByteArray),(⟨#[115,104,111,114,116]⟩:ByteArray),(⟨#[115,105,103,110,101,100]⟩:ByteArray),(⟨#[115,105,122,101,111,102]⟩:ByteArray),(⟨#[115,116,97,116,105,99]⟩:ByteArray),(⟨#[115,116,114,117,99,116]⟩:ByteArray),(⟨#[115,119,105,116,99,104]⟩:ByteArray),(⟨#[116,121,112,101,100,101,102]⟩:ByteArray),(⟨#[117,110,105,111,110]⟩:ByteArray),(⟨#[117,110,115,105,103,110,101,100]⟩:ByteArray),(⟨#[118,111,105,100]⟩:ByteArray),(⟨#[118,111,108,97,116,105,108,101]⟩:ByteArray),(⟨#[119,104,105,108,101]⟩:ByteArray)]:List ByteArray)):=⟨_,rfl⟩
 replace H:(some y110)=some r:=by first|(rw [hy110];with_reducible exact H)|(have H2_:=(Option.bind_some _ _).symm.trans H;rw [hy110];with_reducible exact H2_)|(have H2_:=(Option.bind_some _ _).symm.trans H;with_reducible exact H2_)|with_reducible exact H|(rw [hy110];exact H)|exact H
 have Ny110:=z0 hy110
 clear hy110
 obtain rfl:=Option.some.inj H
 go_enter Tryz.func195,Tryz.ntmps195
 go_wp2_with (first|((with_reducible refine gate_dst (N:=1) rfl ?_);refine Kd.R_lit Kd.string _ 9 ?hg (N:=1) ?hd (xs:=([(⟨#[98,114,101,97,107]⟩:ByteArray),(⟨#[99,97,115,101]⟩:ByteArray),(⟨#[99,104,97,114]⟩:ByteArray),(⟨#[99,111,110,115,116]⟩:ByteArray),(⟨#[99,111,110,116,105,110,117,101]⟩:ByteArray),(⟨#[100,101,102,97,117,108,116]⟩:ByteArray),(⟨#[100,111]⟩:ByteArray),(⟨#[101,108,115,101]⟩:ByteArray),(⟨#[101,110,117,109]⟩:ByteArray),(⟨#[101,120,116,101,114,110]⟩:ByteArray),(⟨#[102,111,114]⟩:ByteArray),(⟨#[103,111,116,111]⟩:ByteArray),(⟨#[105,102]⟩:ByteArray),(⟨#[105,110,116]⟩:ByteArray),(⟨#[108,111,110,103]⟩:ByteArray),(⟨#[114,101,116,117,114,110]⟩:ByteArray),(⟨#[115,104,111,114,116]⟩:ByteArray),(⟨#[115,105,103,110,101,100]⟩:ByteArray),(⟨#[115,105,122,101,111,102]⟩:ByteArray),(⟨#[115,116,97,116,105,99]⟩:ByteArray),(⟨#[115,116,114,117,99,116]⟩:ByteArray),(⟨#[115,119,105,116,99,104]⟩:ByteArray),(⟨#[116,121,112,101,100,101,102]⟩:ByteArray),(⟨#[117,110,105,111,110]⟩:ByteArray),(⟨#[117,110,115,105,103,110,101,100]⟩:ByteArray),(⟨#[118,111,105,100]⟩:ByteArray),(⟨#[118,111,108,97,116,105,108,101]⟩:ByteArray),(⟨#[119,104,105,108,101]⟩:ByteArray)]:List ByteArray)) (inner:=[.string (⟨#[98,114,101,97,107]⟩:ByteArray),.string (⟨#[99,97,115,101]⟩:ByteArray),.string (⟨#[99,104,97,114]⟩:ByteArray),.string (⟨#[99,111,110,115,116]⟩:ByteArray),.string (⟨#[99,111,110,116,105,110,117,101]⟩:ByteArray),.string (⟨#[100,101,102,97,117,108,116]⟩:ByteArray),.string (⟨#[100,111]⟩:ByteArray),.string (⟨#[101,108,115,101]⟩:ByteArray),.string (⟨#[101,110,117,109]⟩:ByteArray),.string (⟨#[101,120,116,101,114,110]⟩:ByteArray),.string (⟨#[102,111,114]⟩:ByteArray),.string (⟨#[103,111,116,111]⟩:ByteArray),.string (⟨#[105,102]⟩:ByteArray),.string (⟨#[105,110,116]⟩:ByteArray),.string (⟨#[108,111,110,103]⟩:ByteArray),.string (⟨#[114,101,116,117,114,110]⟩:ByteArray),.string (⟨#[115,104,111,114,116]⟩:ByteArray),.string (⟨#[115,105,103,110,101,100]⟩:ByteArray),.string (⟨#[115,105,122,101,111,102]⟩:ByteArray),.string (⟨#[115,116,97,116,105,99]⟩:ByteArray),.string (⟨#[115,116,114,117,99,116]⟩:ByteArray),.string (⟨#[115,119,105,116,99,104]⟩:ByteArray),.string (⟨#[116,121,112,101,100,101,102]⟩:ByteArray),.string (⟨#[117,110,105,111,110]⟩:ByteArray),.string (⟨#[117,110,115,105,103,110,101,100]⟩:ByteArray),.string (⟨#[118,111,105,100]⟩:ByteArray),.string (⟨#[118,111,108,97,116,105,108,101]⟩:ByteArray),.string (⟨#[119,104,105,108,101]⟩:ByteArray)]) (ok:=fun _=>True) (okp:=fun _=>True) ?hr ?hp (fun _ hk=>hk) trivial (Below.refl _ _) (Nat.le_refl _) (by simp) ?_;(case hd=>rfl);(case hg=>rfl);(case hr=>first|(go_simp;done)|(go_simp;rfl));(case hp=>exact (Reps.one (show Kd.M Kd.string _ _ _ (⟨#[98,114,101,97,107]⟩:ByteArray) [.string (⟨#[98,114,101,97,107]⟩:ByteArray)] from rfl) (Reps.one (show Kd.M Kd.string _ _ _ (⟨#[99,97,115,101]⟩:ByteArray) [.string (⟨#[99,97,115,101]⟩:ByteArray)] from rfl) (Reps.one (show Kd.M Kd.string _ _ _ (⟨#[99,104,97,114]⟩:ByteArray) [.string (⟨#[99,104,97,114]⟩:ByteArray)] from rfl) (Reps.one (show Kd.M Kd.string _ _ _ (⟨#[99,111,110,115,116]⟩:ByteArray) [.string (⟨#[99,111,110,115,116]⟩:ByteArray)] from rfl) (Reps.one (show Kd.M Kd.string _ _ _ (⟨#[99,111,110,116,105,110,117,101]⟩:ByteArray) [.string (⟨#[99,111,110,116,105,110,117,101]⟩:ByteArray)] from rfl) (Reps.one (show Kd.M Kd.string _ _ _ (⟨#[100,101,102,97,117,108,116]⟩:ByteArray) [.string (⟨#[100,101,102,97,117,108,116]⟩:ByteArray)] from rfl) (Reps.one (show Kd.M Kd.string _ _ _ (⟨#[100,111]⟩:ByteArray) [.string (⟨#[100,111]⟩:ByteArray)] from rfl) (Reps.one (show Kd.M Kd.string _ _ _ (⟨#[101,108,115,101]⟩:ByteArray) [.string (⟨#[101,108,115,101]⟩:ByteArray)] from rfl) (Reps.one (show Kd.M Kd.string _ _ _ (⟨#[101,110,117,109]⟩:ByteArray) [.string (⟨#[101,110,117,109]⟩:ByteArray)] from rfl) (Reps.one (show Kd.M Kd.string _ _ _ (⟨#[101,120,116,101,114,110]⟩:ByteArray) [.string (⟨#[101,120,116,101,114,110]⟩:ByteArray)] from rfl) (Reps.one (show Kd.M Kd.string _ _ _ (⟨#[102,111,114]⟩:ByteArray) [.string (⟨#[102,111,114]⟩:ByteArray)] from rfl) (Reps.one (show Kd.M Kd.string _ _ _ (⟨#[103,111,116,111]⟩:ByteArray) [.string (⟨#[103,111,116,111]⟩:ByteArray)] from rfl) (Reps.one (show Kd.M Kd.string _ _ _ (⟨#[105,102]⟩:ByteArray) [.string (⟨#[105,102]⟩:ByteArray)] from rfl) (Reps.one (show Kd.M Kd.string _ _ _ (⟨#[105,110,116]⟩:ByteArray) [.string (⟨#[105,110,116]⟩:ByteArray)] from rfl) (Reps.one (show Kd.M Kd.string _ _ _ (⟨#[108,111,110,103]⟩:ByteArray) [.string (⟨#[108,111,110,103]⟩:ByteArray)] from rfl) (Reps.one (show Kd.M Kd.string _ _ _ (⟨#[114,101,116,117,114,110]⟩:ByteArray) [.string (⟨#[114,101,116,117,114,110]⟩:ByteArray)] from rfl) (Reps.one (show Kd.M Kd.string _ _ _ (⟨#[115,104,111,114,116]⟩:ByteArray) [.string (⟨#[115,104,111,114,116]⟩:ByteArray)] from rfl) (Reps.one (show Kd.M Kd.string _ _ _ (⟨#[115,105,103,110,101,100]⟩:ByteArray) [.string (⟨#[115,105,103,110,101,100]⟩:ByteArray)] from rfl) (Reps.one (show Kd.M Kd.string _ _ _ (⟨#[115,105,122,101,111,102]⟩:ByteArray) [.string (⟨#[115,105,122,101,111,102]⟩:ByteArray)] from rfl) (Reps.one (show Kd.M Kd.string _ _ _ (⟨#[115,116,97,116,105,99]⟩:ByteArray) [.string (⟨#[115,116,97,116,105,99]⟩:ByteArray)] from rfl) (Reps.one (show Kd.M Kd.string _ _ _ (⟨#[115,116,114,117,99,116]⟩:ByteArray) [.string (⟨#[115,116,114,117,99,116]⟩:ByteArray)] from rfl) (Reps.one (show Kd.M Kd.string _ _ _ (⟨#[115,119,105,116,99,104]⟩:ByteArray) [.string (⟨#[115,119,105,116,99,104]⟩:ByteArray)] from rfl) (Reps.one (show Kd.M Kd.string _ _ _ (⟨#[116,121,112,101,100,101,102]⟩:ByteArray) [.string (⟨#[116,121,112,101,100,101,102]⟩:ByteArray)] from rfl) (Reps.one (show Kd.M Kd.string _ _ _ (⟨#[117,110,105,111,110]⟩:ByteArray) [.string (⟨#[117,110,105,111,110]⟩:ByteArray)] from rfl) (Reps.one (show Kd.M Kd.string _ _ _ (⟨#[117,110,115,105,103,110,101,100]⟩:ByteArray) [.string (⟨#[117,110,115,105,103,110,101,100]⟩:ByteArray)] from rfl) (Reps.one (show Kd.M Kd.string _ _ _ (⟨#[118,111,105,100]⟩:ByteArray) [.string (⟨#[118,111,105,100]⟩:ByteArray)] from rfl) (Reps.one (show Kd.M Kd.string _ _ _ (⟨#[118,111,108,97,116,105,108,101]⟩:ByteArray) [.string (⟨#[118,111,108,97,116,105,108,101]⟩:ByteArray)] from rfl) (Reps.one (show Kd.M Kd.string _ _ _ (⟨#[119,104,105,108,101]⟩:ByteArray) [.string (⟨#[119,104,105,108,101]⟩:ByteArray)] from rfl) (Reps.none _ _))))))))))))))))))))))))))))));intro v111 w1 ho2 hb hg_ hnew_;clear hg_ hnew_;(first|rw [←Ny110.out] at ho2|(simp only [Int.reduceToNat] at ho2;rw [←Ny110.out] at ho2));have n0_:=z0 (Kd.R_lower ho2 (below_size zw));have n1_:=z0 (below_step zw hb);revert n0_ n1_;clear HB;intro HO112 HB;clear hb ho2))
 go_ret
 exact ⟨_,zv,by (with_reducible repeat (first|apply Kd.R_alloc|apply Kd.R_drewN|apply Kd.R_drew));exact HO112.out,zw⟩
mutual
def smockingref02_word.j1:Nat→ByteArray→Int→Int→Option (Int × Int)
 |0,_,_,_=>none
 |k+1,x0,x1,x6=>(smockingref02_Keys.f).bind fun t115=>(if 0≤x1 then (if x1≤x6 then (if x6≤(x0.size:Int) then ((smockingref00_Has.f k t115 (x0.extract (x1:Int).toNat (x6:Int).toNat)).bind fun t118=>(if t118≥0 then (some (2,x6)) else (some (1,x6)))) else (none)) else (none)) else (none))
def smockingref02_word.l0:Nat→ByteArray→Int→Int→Option (Int × Int)
 |0,_,_,_=>none
 |k+1,x0,x1,x6=>if x6<(x0.size:Int) then (if 0≤x6 then ((smockingref02_letter.f (bt x0 x6)).bind fun t113=>(if t113=true then (smockingref02_word.l0 k x0 x1 (wrap64 (x6+1))) else ((smockingref02_digit.f (bt x0 x6)).bind fun t114=>(if t114=true then (smockingref02_word.l0 k x0 x1 (wrap64 (x6+1))) else (smockingref02_word.j1 k x0 x1 x6))))) else (none)) else (smockingref02_word.j1 k x0 x1 x6)
end
def smockingref02_word.f (k:Nat)(a0:ByteArray)(a1:Int):Option (Int × Int):=smockingref02_word.l0 k a0 a1 a1
theorem smockingref02_word.calls (k:Nat)(a0:ByteArray)(a1:Int)(r1:Int)(r2:Int)(w:World)(h:smockingref02_word.f k a0 a1=some (r1,r2)):
 Calls Tryz.prog 177 #[.string a0,.int .i64 a1] w fun e w'=>e= .returned (.tuple #[.int .i64 r1,.int .i64 r2])∧Below w.heap.size w w':=by
 have HB:=z0 (Below.refl w.heap.size w)
 have H:=h
 clear h
 unfold smockingref02_word.f at H
 have HC3:=z0 H
 clear H
 go_enter Tryz.func177,Tryz.ntmps177
 go_upto_block 0 with (fail)
 go_cut [6] (fun v6 wc=>∃(kq:Nat) (x6_2:Int),v6= .int .i64 x6_2∧Aside0 (smockingref02_word.j1 kq a0 a1 x6_2=some (r1,r2))∧Aside0 (kq≤k)∧Aside0 (Below w.heap.size w wc))
 case first=>
  have H:=HC3.out
  clear HC3
  have H':=z0 H
  clear H
  go_wp2
  (try go_simp)
  go_loopg [6] k (fun kq v6 w'=>∃(x6_1:Int),v6= .int .i64 x6_1∧Aside0 (smockingref02_word.l0 kq a0 a1 x6_1=some (r1,r2))∧Aside0 (kq≤k)∧Aside0 (Below w.heap.size w w'))
  case atStart=>exact ⟨(a1),zr,H',⟨Nat.le_refl _⟩,⟨zw⟩⟩
  case round=>
   clear H'
   (try clear c1);(try clear p2)
   obtain ⟨x6_1,rfl,HA,HK1,HB⟩:=hrel
   cases gk with
   |zero=>exact absurd HA.out (by simp [smockingref02_word.l0])
   |succ k1=>
    have H:=HA.out
    clear HA
    simp only [smockingref02_word.l0] at H
    replace H:=zd H
    rcases H with ⟨c4b0,H⟩|⟨c4b0,H⟩
    · (first|rw [c4b0]|(simp only [i64_w,i32_w];rw [c4b0])|skip)
      replace H:=zdn H
      obtain ⟨c5b0,H⟩:=H
      replace H:=zo H
      obtain ⟨t113,A7,H⟩:=H
      (try dsimp only at H)
      by_cases c8:t113=true
      · subst c8
        rw [if_pos rfl] at H
        have H':=z0 H
        clear H
        obtain ⟨p6,q6,hx6⟩:=zb a0 x6_1
        go_wp2_with (first|(go_at_call 176;(with_reducible refine (smockingref02_letter.calls (bt a0 x6_1) true _ A7.out).mono ?_);rintro e w' ⟨rfl,⟨nd,rfl⟩⟩))
        go_roundg k1
        case measure=>have:=HK1.out;omega
        case rel=>exact ⟨(wrap64 (x6_1+1)),zr,H',⟨by have:=HK1.out;omega⟩,⟨zw⟩⟩
      · replace c8:=Bool.eq_false_iff.mpr c8
        subst c8
        rw [if_neg nofun] at H
        replace H:=zo H
        obtain ⟨t114,A10,H⟩:=H
        (try dsimp only at H)
        by_cases c11:t114=true
        · subst c11
          rw [if_pos rfl] at H
          have H':=z0 H
          clear H
          obtain ⟨p6,q6,hx6⟩:=zb a0 x6_1
          go_wp2_with (first|(go_at_call 176;(with_reducible refine (smockingref02_letter.calls (bt a0 x6_1) false _ A7.out).mono ?_);rintro e w' ⟨rfl,⟨nd,rfl⟩⟩;have p9:0≤(x6_1:Int):=of_decide_eq_true (by first|(with_reducible assumption)|assumption);have q9:x6_1<(a0.size:Int):=of_decide_eq_true (by first|(with_reducible assumption)|assumption);have hx9:=bt_at a0 x6_1;replace p9:=eq_true p9;replace q9:=eq_true q9)|(go_at_call 178;(with_reducible refine (smockingref02_digit.calls (bt a0 x6_1) true _ A10.out).mono ?_);rintro e w' ⟨rfl,⟨nd,rfl⟩⟩))
          go_roundg k1
          case measure=>have:=HK1.out;omega
          case rel=>exact ⟨(wrap64 (x6_1+1)),zr,H',⟨by have:=HK1.out;omega⟩,⟨zw⟩⟩
        · replace c11:=Bool.eq_false_iff.mpr c11
          subst c11
          rw [if_neg nofun] at H
          have H':=z0 H
          clear H
          obtain ⟨p6,q6,hx6⟩:=zb a0 x6_1
          go_wp2_with (first|(go_at_call 176;(with_reducible refine (smockingref02_letter.calls (bt a0 x6_1) false _ A7.out).mono ?_);rintro e w' ⟨rfl,⟨nd,rfl⟩⟩;have p9:0≤(x6_1:Int):=of_decide_eq_true (by first|(with_reducible assumption)|assumption);have q9:x6_1<(a0.size:Int):=of_decide_eq_true (by first|(with_reducible assumption)|assumption);have hx9:=bt_at a0 x6_1;replace p9:=eq_true p9;replace q9:=eq_true q9)|(go_at_call 178;(with_reducible refine (smockingref02_digit.calls (bt a0 x6_1) false _ A10.out).mono ?_);rintro e w' ⟨rfl,⟨nd,rfl⟩⟩))
          go_meet
          case rel=>exact ⟨_,(x6_1),zr,H',⟨by have:=HK1.out;first|omega|exact Nat.le_refl _⟩,⟨zw⟩⟩
    · (first|rw [c4b0]|(simp only [i64_w,i32_w];rw [c4b0])|skip)
      have H':=z0 H
      clear H
      go_wp2
      go_meet
      case rel=>exact ⟨_,(x6_1),zr,H',⟨by have:=HK1.out;first|omega|exact Nat.le_refl _⟩,⟨zw⟩⟩
 case rest=>
  clear HC3
  (try clear c1);(try clear p2);(try clear c4);(try clear c4b0);(try clear c5);(try clear c5b0);(try clear p6);(try clear q6);(try clear hx6);(try clear c8);(try clear p9);(try clear q9);(try clear hx9);(try clear c11);(try clear p2);(try clear p6);(try clear p9);(try clear q6);(try clear q9)
  obtain ⟨kq,x6_2,rfl,HA,HJ2,HB⟩:=hcut
  cases kq with
  |zero=>exact absurd HA.out (by simp [smockingref02_word.j1])
  |succ kj2=>
   have H:=HA.out
   clear HA
   simp only [smockingref02_word.j1] at H
   replace H:=zo H
   obtain ⟨t115,A12,H⟩:=H
   (try dsimp only at H)
   replace H:=zyn H
   obtain ⟨c13b0,c13b1,H⟩:=H
   replace H:=zyn H
   obtain ⟨c14b0,c14b1,H⟩:=H
   replace H:=zyn H
   obtain ⟨c15b0,c15b1,H⟩:=H
   replace H:=zo H
   obtain ⟨t118,A16,H⟩:=H
   (try dsimp only at H)
   replace H:=zg H
   rcases H with ⟨c17b0,H⟩|⟨c17b0,H⟩
   · simp only [Option.some.injEq,Prod.mk.injEq] at H
     obtain ⟨rfl,rfl⟩:=H
     try go_wp2
     have n0_:=z0 (below_drew1 HB.out)
     clear HB
     have HB:=n0_
     clear n0_
     refine start_ (n:=7) (S:=fun w'=>True) (ds:=[]) #[false,false,false,false,false,false,false] zf rfl rfl trivial (fun hHeld=> ?_)
     generalize wc.drew=w18 at HB hHeld ⊢
     refine pure_ (i:=1) (N:=some 27) (v:= ?_) (a':= ?_) #[false,true,false,false,false,false,false] rfl rfl zf (fun _ _ _ h=>h) (Or.inl ⟨by rfl,?_⟩) ?_ ?_
     rotate_left
     · intro w'
       go_simp
       with_reducible rfl
     rotate_left
     · simp only [Act.put,List.setIfInBounds_toArray,List.set_cons_zero,List.set_cons_succ,i64_w,i32_w]
       rfl
     refine pure_ (i:=2) (N:=some 28) (v:= ?_) (a':= ?_) #[false,true,true,false,false,false,false] rfl rfl zf (fun _ _ _ h=>h) (Or.inl ⟨by rfl,?_⟩) ?_ ?_
     rotate_left
     · intro w'
       go_simp
       with_reducible rfl
     rotate_left
     · simp only [Act.put,List.setIfInBounds_toArray,List.set_cons_zero,List.set_cons_succ,i64_w,i32_w]
       rfl
     refine pure_ (i:=3) (N:=some 29) (v:= ?_) (a':= ?_) #[false,true,true,true,false,false,false] rfl rfl zf (fun _ _ _ h=>h) (Or.inl ⟨by rfl,?_⟩) ?_ ?_
     rotate_left
     · intro w'
       go_simp
       with_reducible rfl
     rotate_left
     · simp only [Act.put,List.setIfInBounds_toArray,List.set_cons_zero,List.set_cons_succ,i64_w,i32_w]
       rfl
     refine pure_ (i:=4) (N:=some 30) (v:= ?_) (a':= ?_) #[false,true,true,true,true,false,false] rfl rfl zf (fun _ _ _ h=>h) (Or.inl ⟨by rfl,?_⟩) ?_ ?_
     rotate_left
     · intro w'
       go_simp
       with_reducible rfl
     rotate_left
     · simp only [Act.put,List.setIfInBounds_toArray,List.set_cons_zero,List.set_cons_succ,i64_w,i32_w]
       rfl
     refine one_ (i:=0) (N:=some 26) #[true,true,true,true,true,false,false] rfl rfl zf (by decide) (fun K hK=> ?_)
     refine goes_ Tryz.func195 zf rfl #[] (by rfl) rfl rfl zl ?_
     with_reducible refine (smockingref02_Keys.calls t115 _ A12.out).mono ?_
     rintro e w19 ⟨v116,rfl,ho0,hb⟩
     refine ⟨_,rfl,?_⟩
     have n0_:=z0 (Kd.R_lower ho0 (below_size zw))
     have n1_:=z0 (below_step zw hb)
     clear HB
     have HO117:=n0_
     have HB:=n1_
     clear n0_ n1_
     (try clear hb)
     (try clear hb2)
     (try clear hk)
     (try clear hi)
     (try clear ho0)
     obtain ⟨Ao20,co20,eo20⟩:=Kd.R_slice HO117.out
     (first|subst eo20|(injection eo20 with f1_ f2_ f3_;have f4_:=f1_.symm;have f5_:=f3_.symm;clear f1_ f2_ f3_;subst f4_;subst f5_))
     refine hK.out _ _ trivial (fun hHeld=> ?_)
     clear hK K
     refine norm_ (a':= ?_) ?_ ?_
     rotate_left
     · show Act.put _ (some 26) _=_
       simp only [Act.put,List.setIfInBounds_toArray,List.set_cons_zero,List.set_cons_succ,i64_w,i32_w]
       rfl
     refine one_ (i:=5) (N:=some 31) #[true,true,true,true,true,true,false] rfl rfl zf (by decide) (fun K hK=> ?_)
     refine goes_ Tryz.func19 zf rfl #[.slice Ao20 t115.length co20,.string (a0.extract (a1:Int).toNat (x6_2:Int).toNat)] (by rfl) rfl rfl zl ?_
     with_reducible refine (smockingref00_Has.calls kj2 _ _ t115 (a0.extract (a1:Int).toNat (x6_2:Int).toNat) t118 _ ?side1 ?side2 A16.out).mono ?_
     (case side1=>repeat (first|exact (Kd.R_reads' HO117.out).2.2|(with_reducible refine Kd.C_alloc ?_ _)|(with_reducible refine Kd.C_drewN ?_ _)|(with_reducible refine Kd.C_drew ?_)))
     (case side2=>exact (Kd.R_reads' HO117.out).2.1)
     rintro e w' ⟨rfl,⟨nd,rfl⟩⟩
     refine ⟨_,rfl,?_⟩
     refine hK.out _ _ trivial (fun hHeld=> ?_)
     clear hK K
     refine norm_ (a':= ?_) ?_ ?_
     rotate_left
     · show Act.put _ (some 31) _=_
       simp only [Act.put,List.setIfInBounds_toArray,List.set_cons_zero,List.set_cons_succ,i64_w,i32_w]
       rfl
     refine pure_ (i:=6) (N:=some 32) (v:= ?_) (a':= ?_) #[true,true,true,true,true,true,true] rfl rfl zf (fun _ _ _ h=>h) (Or.inl ⟨by rfl,?_⟩) ?_ ?_
     rotate_left
     · intro w'
       go_simp
       with_reducible rfl
     rotate_left
     · simp only [Act.put,List.setIfInBounds_toArray,List.set_cons_zero,List.set_cons_succ,i64_w,i32_w]
       rfl
     refine done_ zf ?_
     try go_wp2
     go_ret2
     exact ⟨zv,zw⟩
   · simp only [Option.some.injEq,Prod.mk.injEq] at H
     obtain ⟨rfl,rfl⟩:=H
     try go_wp2
     have n0_:=z0 (below_drew1 HB.out)
     clear HB
     have HB:=n0_
     clear n0_
     refine start_ (n:=7) (S:=fun w'=>True) (ds:=[]) #[false,false,false,false,false,false,false] zf rfl rfl trivial (fun hHeld=> ?_)
     generalize wc.drew=w21 at HB hHeld ⊢
     refine pure_ (i:=1) (N:=some 27) (v:= ?_) (a':= ?_) #[false,true,false,false,false,false,false] rfl rfl zf (fun _ _ _ h=>h) (Or.inl ⟨by rfl,?_⟩) ?_ ?_
     rotate_left
     · intro w'
       go_simp
       with_reducible rfl
     rotate_left
     · simp only [Act.put,List.setIfInBounds_toArray,List.set_cons_zero,List.set_cons_succ,i64_w,i32_w]
       rfl
     refine pure_ (i:=2) (N:=some 28) (v:= ?_) (a':= ?_) #[false,true,true,false,false,false,false] rfl rfl zf (fun _ _ _ h=>h) (Or.inl ⟨by rfl,?_⟩) ?_ ?_
     rotate_left
     · intro w'
       go_simp
       with_reducible rfl
     rotate_left
     · simp only [Act.put,List.setIfInBounds_toArray,List.set_cons_zero,List.set_cons_succ,i64_w,i32_w]
       rfl
     refine pure_ (i:=3) (N:=some 29) (v:= ?_) (a':= ?_) #[false,true,true,true,false,false,false] rfl rfl zf (fun _ _ _ h=>h) (Or.inl ⟨by rfl,?_⟩) ?_ ?_
     rotate_left
     · intro w'
       go_simp
       with_reducible rfl
     rotate_left
     · simp only [Act.put,List.setIfInBounds_toArray,List.set_cons_zero,List.set_cons_succ,i64_w,i32_w]
       rfl
     refine pure_ (i:=4) (N:=some 30) (v:= ?_) (a':= ?_) #[false,true,true,true,true,false,false] rfl rfl zf (fun _ _ _ h=>h) (Or.inl ⟨by rfl,?_⟩) ?_ ?_
     rotate_left
     · intro w'
       go_simp
       with_reducible rfl
     rotate_left
     · simp only [Act.put,List.setIfInBounds_toArray,List.set_cons_zero,List.set_cons_succ,i64_w,i32_w]
       rfl
     refine one_ (i:=0) (N:=some 26) #[true,true,true,true,true,false,false] rfl rfl zf (by decide) (fun K hK=> ?_)
     refine goes_ Tryz.func195 zf rfl #[] (by rfl) rfl rfl zl ?_
     with_reducible refine (smockingref02_Keys.calls t115 _ A12.out).mono ?_
     rintro e w22 ⟨v116,rfl,ho0,hb⟩
     refine ⟨_,rfl,?_⟩
     have n0_:=z0 (Kd.R_lower ho0 (below_size zw))
     have n1_:=z0 (below_step zw hb)
     clear HB
     have HO117:=n0_
     have HB:=n1_
     clear n0_ n1_
     (try clear hb)
     (try clear hb2)
     (try clear hk)
     (try clear hi)
     (try clear ho0)
     obtain ⟨Ao23,co23,eo23⟩:=Kd.R_slice HO117.out
     (first|subst eo23|(injection eo23 with f1_ f2_ f3_;have f4_:=f1_.symm;have f5_:=f3_.symm;clear f1_ f2_ f3_;subst f4_;subst f5_))
     refine hK.out _ _ trivial (fun hHeld=> ?_)
     clear hK K
     refine norm_ (a':= ?_) ?_ ?_
     rotate_left
     · show Act.put _ (some 26) _=_
       simp only [Act.put,List.setIfInBounds_toArray,List.set_cons_zero,List.set_cons_succ,i64_w,i32_w]
       rfl
     refine one_ (i:=5) (N:=some 31) #[true,true,true,true,true,true,false] rfl rfl zf (by decide) (fun K hK=> ?_)
     refine goes_ Tryz.func19 zf rfl #[.slice Ao23 t115.length co23,.string (a0.extract (a1:Int).toNat (x6_2:Int).toNat)] (by rfl) rfl rfl zl ?_
     with_reducible refine (smockingref00_Has.calls kj2 _ _ t115 (a0.extract (a1:Int).toNat (x6_2:Int).toNat) t118 _ ?side1 ?side2 A16.out).mono ?_
     (case side1=>repeat (first|exact (Kd.R_reads' HO117.out).2.2|(with_reducible refine Kd.C_alloc ?_ _)|(with_reducible refine Kd.C_drewN ?_ _)|(with_reducible refine Kd.C_drew ?_)))
     (case side2=>exact (Kd.R_reads' HO117.out).2.1)
     rintro e w' ⟨rfl,⟨nd,rfl⟩⟩
     refine ⟨_,rfl,?_⟩
     refine hK.out _ _ trivial (fun hHeld=> ?_)
     clear hK K
     refine norm_ (a':= ?_) ?_ ?_
     rotate_left
     · show Act.put _ (some 31) _=_
       simp only [Act.put,List.setIfInBounds_toArray,List.set_cons_zero,List.set_cons_succ,i64_w,i32_w]
       rfl
     refine pure_ (i:=6) (N:=some 32) (v:= ?_) (a':= ?_) #[true,true,true,true,true,true,true] rfl rfl zf (fun _ _ _ h=>h) (Or.inl ⟨by rfl,?_⟩) ?_ ?_
     rotate_left
     · intro w'
       go_simp
       with_reducible rfl
     rotate_left
     · simp only [Act.put,List.setIfInBounds_toArray,List.set_cons_zero,List.set_cons_succ,i64_w,i32_w]
       rfl
     refine done_ zf ?_
     try go_wp2
     go_ret2
     exact ⟨zv,zw⟩
mutual
def smockingref02_number.l0:Nat→ByteArray→Int→Option (Int)
 |0,_,_=>none
 |k+1,x0,x5=>if x5<(x0.size:Int) then (if 0≤x5 then (if (bt x0 x5)=43 then (if 0≤(wrap64 (x5-1)) then (if (wrap64 (x5-1))<(x0.size:Int) then (if (bt x0 (wrap64 (x5-1)))=101 then (smockingref02_number.j1 k x0 x5 (bt x0 x5) true) else (smockingref02_number.j1 k x0 x5 (bt x0 x5) ((bt x0 (wrap64 (x5-1)))==69))) else (none)) else (none)) else (if (bt x0 x5)=45 then (if 0≤(wrap64 (x5-1)) then (if (wrap64 (x5-1))<(x0.size:Int) then (if (bt x0 (wrap64 (x5-1)))=101 then (smockingref02_number.j1 k x0 x5 (bt x0 x5) true) else (smockingref02_number.j1 k x0 x5 (bt x0 x5) ((bt x0 (wrap64 (x5-1)))==69))) else (none)) else (none)) else (smockingref02_number.j1 k x0 x5 (bt x0 x5) false))) else (none)) else (some x5)
def smockingref02_number.j1:Nat→ByteArray→Int→Int→Bool→Option (Int)
 |0,_,_,_,_=>none
 |k+1,x0,x5,x6,x7=>(smockingref02_letter.f x6).bind fun t119=>(if t119=true then (smockingref02_number.l0 k x0 (wrap64 (x5+1))) else ((smockingref02_digit.f x6).bind fun t120=>(if t120=true then (smockingref02_number.l0 k x0 (wrap64 (x5+1))) else (if x6=46 then (smockingref02_number.l0 k x0 (wrap64 (x5+1))) else (if x7=true then (smockingref02_number.l0 k x0 (wrap64 (x5+1))) else (some x5))))))
end
def smockingref02_number.f (k:Nat)(a0:ByteArray)(a1:Int):Option (Int):=smockingref02_number.l0 k a0 (wrap64 (a1+1))
theorem smockingref02_number.calls (k:Nat)(a0:ByteArray)(a1:Int)(r:Int)(w:World)(h:smockingref02_number.f k a0 a1=some r):
 Calls Tryz.prog 179 #[.string a0,.int .i64 a1] w fun e w'=>e= .returned (.int .i64 r)∧Drawn0 w w':=by
 have H:=h
 clear h
 unfold smockingref02_number.f at H
 have H':=z0 H
 clear H
 go_enter Tryz.func179,Tryz.ntmps179
 go_wp2
 (try go_simp)
 go_loopg [5] k (fun kq v5 w'=>∃(x5_1:Int),v5= .int .i64 x5_1∧Aside0 (smockingref02_number.l0 kq a0 x5_1=some r)∧Aside0 (kq≤k)∧Drawn0 w w')
 case atStart=>exact ⟨(wrap64 (a1+1)),zr,H',⟨Nat.le_refl _⟩,zq⟩
 case round=>
  clear H'
  (try clear c1);(try clear p2)
  obtain ⟨x5_1,rfl,HA,HK1,⟨m1,rfl⟩⟩:=hrel
  cases gk with
  |zero=>exact absurd HA.out (by simp [smockingref02_number.l0])
  |succ k1=>
   have H:=HA.out
   clear HA
   simp only [smockingref02_number.l0] at H
   replace H:=zd H
   rcases H with ⟨c3b0,H⟩|⟨c3b0,H⟩
   · replace H:=zdn H
     obtain ⟨c4b0,H⟩:=H
     have HC6:=z0 H
     clear H
     obtain ⟨p5,q5,hx5⟩:=zb a0 x5_1
     go_upto_region 4 with (fail)
     go_cut [7] (fun v7 wc=>∃(kq:Nat) (x7_5:Bool),v7= .bool x7_5∧Aside0 (smockingref02_number.j1 kq a0 x5_1 (bt a0 x5_1) x7_5=some r)∧Aside0 (kq≤k1)∧Drawn0 w wc)
     case first=>
      have H:=HC6.out
      clear HC6
      replace H:=ze H
      rcases H with ⟨c7b0,c7b1,H⟩|⟨c7b0,c7b1,H⟩
      · (first|rw [c7b0]|(simp only [i64_w,i32_w];rw [c7b0])|skip)
        generalize hji8:(wrap64 (x5_1-1))=ji8 at H
        have hji8w:(IntKind.i64.wrap (x5_1-1))=ji8:=(i64_w _).trans hji8
        replace H:=zdn H
        obtain ⟨c9b0,H⟩:=H
        replace H:=zdn H
        obtain ⟨c10b0,H⟩:=H
        replace H:=ze H
        rcases H with ⟨c12b0,c12b1,H⟩|⟨c12b0,c12b1,H⟩
        · have H':=z0 H
          clear H
          obtain ⟨p11,q11,hx11⟩:=zb a0 (ji8)
          go_wp2
          go_meet
          case rel=>exact ⟨_,(true),zr,H',⟨by have:=HK1.out;first|omega|exact Nat.le_refl _⟩,zq⟩
        · have H':=z0 H
          clear H
          obtain ⟨p11,q11,hx11⟩:=zb a0 (ji8)
          go_wp2
          go_meet
          case rel=>exact ⟨_,(((bt a0 (ji8))==69)),(by first|rfl|(simp;done)|(simp only [←hji8]<;>(first|rfl|simp))|(simp [*];done)),H',⟨by have:=HK1.out;first|omega|exact Nat.le_refl _⟩,zq⟩
      · (first|rw [c7b0]|(simp only [i64_w,i32_w];rw [c7b0])|skip)
        replace H:=ze H
        rcases H with ⟨c14b0,c14b1,H⟩|⟨c14b0,c14b1,H⟩
        · generalize hji15:(wrap64 (x5_1-1))=ji15 at H
          have hji15w:(IntKind.i64.wrap (x5_1-1))=ji15:=(i64_w _).trans hji15
          replace H:=zdn H
          obtain ⟨c16b0,H⟩:=H
          replace H:=zdn H
          obtain ⟨c17b0,H⟩:=H
          replace H:=ze H
          rcases H with ⟨c19b0,c19b1,H⟩|⟨c19b0,c19b1,H⟩
          · have H':=z0 H
            clear H
            obtain ⟨p18,q18,hx18⟩:=zb a0 (ji15)
            go_wp2
            go_meet
            case rel=>exact ⟨_,(true),zr,H',⟨by have:=HK1.out;first|omega|exact Nat.le_refl _⟩,zq⟩
          · have H':=z0 H
            clear H
            obtain ⟨p18,q18,hx18⟩:=zb a0 (ji15)
            go_wp2
            go_meet
            case rel=>exact ⟨_,(((bt a0 (ji15))==69)),(by first|rfl|(simp;done)|(simp only [←hji15]<;>(first|rfl|simp))|(simp [*];done)),H',⟨by have:=HK1.out;first|omega|exact Nat.le_refl _⟩,zq⟩
        · have H':=z0 H
          clear H
          go_wp2
          go_meet
          case rel=>exact ⟨_,(false),zr,H',⟨by have:=HK1.out;first|omega|exact Nat.le_refl _⟩,zq⟩
     case rest=>
      clear HC6
      (try clear c1);(try clear p1);(try clear q1);(try clear hx1);(try clear p2);(try clear q2);(try clear hx2);(try clear c3);(try clear c3b0);(try clear c4);(try clear c4b0);(try clear p5);(try clear q5);(try clear hx5);(try clear p6);(try clear c7);(try clear c7b0);(try clear c7b1);(try clear c9);(try clear c9b0);(try clear c10);(try clear c10b0);(try clear p11);(try clear q11);(try clear hx11);(try clear c12);(try clear c12b0);(try clear c12b1);(try clear p13);(try clear q13);(try clear hx13);(try clear c14);(try clear c14b0);(try clear c14b1);(try clear c16);(try clear c16b0);(try clear c17);(try clear c17b0);(try clear p18);(try clear q18);(try clear hx18);(try clear c19);(try clear c19b0);(try clear c19b1);(try clear p20);(try clear q20);(try clear hx20);(try clear p11);(try clear p13);(try clear p18);(try clear p2);(try clear p20);(try clear p5);(try clear q11);(try clear q13);(try clear q18);(try clear q20);(try clear q5)
      obtain ⟨kq,x7_5,rfl,HA,HJ5,⟨mc5,rfl⟩⟩:=hcut
      cases kq with
      |zero=>exact absurd HA.out (by simp [smockingref02_number.j1])
      |succ kj5=>
       have H:=HA.out
       clear HA
       simp only [smockingref02_number.j1] at H
       replace H:=zo H
       obtain ⟨t119,A21,H⟩:=H
       (try dsimp only at H)
       by_cases c22:t119=true
       · subst c22
         rw [if_pos rfl] at H
         have H':=z0 H
         clear H
         go_wp2_with (first|(refine zc 38 rfl Tryz.func176 #[.int .u8 (bt a0 x5_1)] ?_;refine za (smockingref02_letter.calls (bt a0 x5_1) true _ A21.out) fun nd=> ?_))
         go_roundg kj5
         case measure=>have:=HK1.out;have:=HJ5.out;omega
         case rel=>exact ⟨(wrap64 (x5_1+1)),zr,H',⟨by have:=HK1.out;have:=HJ5.out;omega⟩,zq⟩
       · replace c22:=Bool.eq_false_iff.mpr c22
         subst c22
         rw [if_neg nofun] at H
         replace H:=zo H
         obtain ⟨t120,A23,H⟩:=H
         (try dsimp only at H)
         by_cases c24:t120=true
         · subst c24
           rw [if_pos rfl] at H
           have H':=z0 H
           clear H
           go_wp2_with (first|(refine zc 38 rfl Tryz.func176 #[.int .u8 (bt a0 x5_1)] ?_;refine za (smockingref02_letter.calls (bt a0 x5_1) false _ A21.out) fun nd=> ?_)|(go_at_call 178;(with_reducible refine (smockingref02_digit.calls (bt a0 x5_1) true _ A23.out).mono ?_);rintro e w' ⟨rfl,⟨nd,rfl⟩⟩))
           go_roundg kj5
           case measure=>have:=HK1.out;have:=HJ5.out;omega
           case rel=>exact ⟨(wrap64 (x5_1+1)),zr,H',⟨by have:=HK1.out;have:=HJ5.out;omega⟩,zq⟩
         · replace c24:=Bool.eq_false_iff.mpr c24
           subst c24
           rw [if_neg nofun] at H
           replace H:=ze H
           rcases H with ⟨c25b0,c25b1,H⟩|⟨c25b0,c25b1,H⟩
           · have H':=z0 H
             clear H
             go_wp2_with (first|(refine zc 38 rfl Tryz.func176 #[.int .u8 (bt a0 x5_1)] ?_;refine za (smockingref02_letter.calls (bt a0 x5_1) false _ A21.out) fun nd=> ?_)|(go_at_call 178;(with_reducible refine (smockingref02_digit.calls (bt a0 x5_1) false _ A23.out).mono ?_);rintro e w' ⟨rfl,⟨nd,rfl⟩⟩))
             go_roundg kj5
             case measure=>have:=HK1.out;have:=HJ5.out;omega
             case rel=>exact ⟨(wrap64 (x5_1+1)),zr,H',⟨by have:=HK1.out;have:=HJ5.out;omega⟩,zq⟩
           · by_cases c26:x7_5=true
             · subst c26
               rw [if_pos rfl] at H
               have H':=z0 H
               clear H
               go_wp2_with (first|(refine zc 38 rfl Tryz.func176 #[.int .u8 (bt a0 x5_1)] ?_;refine za (smockingref02_letter.calls (bt a0 x5_1) false _ A21.out) fun nd=> ?_)|(go_at_call 178;(with_reducible refine (smockingref02_digit.calls (bt a0 x5_1) false _ A23.out).mono ?_);rintro e w' ⟨rfl,⟨nd,rfl⟩⟩))
               go_roundg kj5
               case measure=>have:=HK1.out;have:=HJ5.out;omega
               case rel=>exact ⟨(wrap64 (x5_1+1)),zr,H',⟨by have:=HK1.out;have:=HJ5.out;omega⟩,zq⟩
             · replace c26:=Bool.eq_false_iff.mpr c26
               subst c26
               rw [if_neg nofun] at H
               obtain rfl:=Option.some.inj H
               go_wp2_with (first|(refine zc 38 rfl Tryz.func176 #[.int .u8 (bt a0 x5_1)] ?_;refine za (smockingref02_letter.calls (bt a0 x5_1) false _ A21.out) fun nd=> ?_)|(go_at_call 178;(with_reducible refine (smockingref02_digit.calls (bt a0 x5_1) false _ A23.out).mono ?_);rintro e w' ⟨rfl,⟨nd,rfl⟩⟩))
               go_ret
               exact ⟨zr,zq⟩
   · obtain rfl:=Option.some.inj H
     go_wp2
     go_ret
     exact ⟨zr,zq⟩
end Go.Proofs.YtolaiebjmhieiaaGreatDoor.ORef
end
