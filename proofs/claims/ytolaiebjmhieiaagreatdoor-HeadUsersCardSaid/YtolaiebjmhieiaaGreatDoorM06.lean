/- Parts of the proof of HeadUsers; no condition. -/
import Derived.Test.YtolaiebjmhieiaaGreatDoorM01
import Derived.Test.YtolaiebjmhieiaaGreatDoorM05
import Derived.Test.YtolaiebjmhieiaaGreatDoorM03
import Derived.Test.YtolaiebjmhieiaaGreatDoorM04
import Derived.Test.YtolaiebjmhieiaaGreatDoorM02
import Derived.BigRegion
import Derived.Deep.RegionLaw
import Derived.Lib.LazyBuf
import Derived.Shelf.SlSortCmp.WholeK
import Derived.Ground.SlsfProg
import Derived.Test.YtolaiebjmhieiaaGreatDoorProg
import Derived.Laws.Cover1
import Derived.Sort.LotA
import Derived.StillTailTactics
import Derived.ChangeKeysEq
import Derived.Laws.StructEq
import Derived.Lib.SliceRun
import Derived.Shelf.SlSortCmp.NoneTotal
set_option maxHeartbeats 8000000
set_option maxRecDepth 100000
set_option linter.unusedVariables false
set_option linter.unusedSimpArgs false
section
namespace Go.Proofs.YtolaiebjmhieiaaGreatDoor.OScan
open Go.RowKit YtolaiebjmhieiaaGreatDoorW.PrintWords YtolaiebjmhieiaaGreatDoorW.PrintLast YtolaiebjmhieiaaGreatDoorW.PrintMore
section
variable {us:ByteArray→List Us}{er:ByteArray→Int}{w0:World}{m:AL}{pv:Value}{PB fm cm:Nat}
structure Env (us:ByteArray→List Us)(er:ByteArray→Int)(w0:World)(m:AL)(pv:Value)(PB fm cm:Nat)(names:List ByteArray):Prop where
 nm:∀n,(eF m n).isSome=true→n∈names
 rd:∀n,(eF m n).isSome=true→Jb us er w0 m pv PB fm cm n
 fs:∀n,∀u∈us n,u.2.2.toList≠[]→(eF m u.2.2).isSome=true
 len:∀n,(us n).length≤1000000
 small:names.length≤1000
theorem Env.in_ {names:List ByteArray}(E:Env us er w0 m pv PB fm cm names):∀x,∀y∈iw (us x),y∈names:=fun x y hy=>by
 obtain ⟨u,h1,h2,h3⟩:=rZ hy
 exact E.nm y (by rw [←h2];exact E.fs x u h1 (by rw [h2];exact h3))
theorem walk_any {I:Ids}{names:List ByteArray}(E:Env us er w0 m pv PB fm cm names):∀(k:Nat) (name:ByteArray) (met out:List ByteArray) (v:Value) (w:World),(eF m name).isSome=true→Graph.left names met≤k→out.length+Graph.left names met≤1000→WS us er w0 m pv PB fm cm I w v met out→
 Calls Tryz.prog 52 #[.string name,.pointer (some ⟨I.MC,0,none⟩),.pointer (some ⟨I.PC,0,none⟩),.pointer (some ⟨I.OC,0,none⟩),.pointer (some ⟨I.WC,0,none⟩)] w (Dv us er w0 m pv PB fm cm I name met out v w):=by
 intro k
 induction k with
 |zero=>
  intro name met out v w hn hk hl S
  by_cases hm:name∈met
  · exact Bq name met out v w hm S
  · have:=Graph.mJ (E.nm name hn) hm
    omega
 |succ k ih=>
  intro name met out v w hn hk hl S
  by_cases hm:name∈met
  · exact Bq name met out v w hm S
  · by_cases he:er name=0
    · exact Gu k names name met out v w hm he (E.nm name hn) (E.fs name) (E.len name) hk hl (fun n met out e met' out' h hn=>Graph.nN er (fun n=>iw (us n)) E.in_ n met out e met' out' h hn) E.nm ih (E.rd name hn) S
    · exact walk_bad name met out v w hm he (E.rd name hn) S
theorem left_le {α:Type}(names met:List α):Graph.left names met≤names.length:=by
 unfold Graph.left;exact List.length_filter_le _ _
theorem EX {names:List ByteArray}(E:Env us er w0 m pv PB fm cm names)(name:ByteArray)(w:World)(hn:(eF m name).isSome=true)(P:PS us er w0 m pv PB fm cm w):
 Calls Tryz.prog 26 #[.pointer (some ⟨PB,0,none⟩),.string name] w fun e w'=>∃(er':Int) (met' out':List ByteArray) (v':Value),e= .returned (.tuple #[v',.int .i64 er'])∧Graph.Walk er (fun n=>iw (us n)) name [] [] er' met' out'∧Kd.R Kd.string 9 w' w.heap.size (fun _=>True) v' (if er'=0 then out' else [])∧PS us er w0 m pv PB fm cm w'∧w.heap.size≤w'.heap.size∧∀k,k<w.heap.size→k≠cm→w'.heap[k]? =w.heap[k]? :=by
 have hmf:∀(fn:Fn) (first cap:Array Value) (w:World),(Instr.makeFunc fn first cap).run Tryz.prog w= .ok (.func fn first cap) w:=fun _ _ _ _=>rfl
 have hmm:∀w,(Instr.makeMap 112 none).run Tryz.prog w= .ok (.map (some w.heap.size)) (w.alloc (.map #[] 0)):=fun _=>rfl
 obtain ⟨S,hS⟩:∃S,S=w.heap.size:=⟨_,rfl⟩
 have H52:Calls Tryz.prog 52 #[.string name,.pointer (some ⟨w.heap.size+1+1+1,0,none⟩),.pointer (some ⟨w.heap.size,0,none⟩),.pointer (some ⟨w.heap.size+1,0,none⟩),.pointer (some ⟨w.heap.size+1+1+1+1,0,none⟩)] (((((w.alloc (Obj.cells #[Value.pointer (some ⟨PB,0,none⟩)] 47)).alloc (Obj.cells #[Value.slice none 0 0] 23)).alloc (Obj.map #[] 0)).alloc (Obj.cells #[Value.map (some (w.heap.size+1+1))] 112)).alloc (Obj.cells #[Value.func (.func 52) #[] #[.pointer (some ⟨w.heap.size+1+1+1,0,none⟩),.pointer (some ⟨w.heap.size,0,none⟩),.pointer (some ⟨w.heap.size+1,0,none⟩),.pointer (some ⟨w.heap.size+1+1+1+1,0,none⟩)]] 113)) fun e w'=>∃(er':Int) (met' out':List ByteArray) (v':Value),e= .returned (.int .i64 er')∧Graph.Walk er (fun n=>iw (us n)) name [] [] er' met' out'∧w'.heap[w.heap.size+1]? =some (.cells #[v'] 23 (0,0))∧Kd.R Kd.string 9 w' w.heap.size (fun _=>True) v' out'∧PS us er w0 m pv PB fm cm w'∧w.heap.size≤w'.heap.size∧∀k,k<w.heap.size→k≠cm→w'.heap[k]? =w.heap[k]? :=by
  obtain ⟨W1,hW1⟩:∃W1,W1=w.alloc (Obj.cells #[Value.pointer (some ⟨PB,0,none⟩)] 47):=⟨_,rfl⟩
  have s1:W1.heap.size=w.heap.size+1:=by rw [hW1,bT]
  have p1:W1.heap[w.heap.size]? =some (.cells #[Value.pointer (some ⟨PB,0,none⟩)] 47 (0,0)):=by rw [hW1];exact dh _ _
  have b1:Below w.heap.size w W1:=by rw [hW1];exact aA (Below.refl _ _) _
  rw [←hW1]
  obtain ⟨W2,hW2⟩:∃W2,W2=W1.alloc (Obj.cells #[Value.slice none 0 0] 23):=⟨_,rfl⟩
  have s2:W2.heap.size=w.heap.size+1+1:=by rw [hW2,bT,s1]
  have p2:W2.heap[w.heap.size+1]? =some (.cells #[Value.slice none 0 0] 23 (0,0)):=by rw [hW2,←s1];exact dh _ _
  have b2:Below W1.heap.size W1 W2:=by rw [hW2];exact aA (Below.refl _ _) _
  rw [←hW2]
  obtain ⟨W3,hW3⟩:∃W3,W3=W2.alloc (Obj.map #[] 0):=⟨_,rfl⟩
  have s3:W3.heap.size=w.heap.size+1+1+1:=by rw [hW3,bT,s2]
  have p3:W3.heap[w.heap.size+1+1]? =some (.map #[] 0):=by rw [hW3,←s2];exact dh _ _
  have b3:Below W2.heap.size W2 W3:=by rw [hW3];exact aA (Below.refl _ _) _
  rw [←hW3]
  obtain ⟨W4,hW4⟩:∃W4,W4=W3.alloc (Obj.cells #[Value.map (some (w.heap.size+1+1))] 112):=⟨_,rfl⟩
  have s4:W4.heap.size=w.heap.size+1+1+1+1:=by rw [hW4,bT,s3]
  have p4:W4.heap[w.heap.size+1+1+1]? =some (.cells #[Value.map (some (w.heap.size+1+1))] 112 (0,0)):=by rw [hW4,←s3];exact dh _ _
  have b4:Below W3.heap.size W3 W4:=by rw [hW4];exact aA (Below.refl _ _) _
  rw [←hW4]
  obtain ⟨W5,hW5⟩:∃W5,W5=W4.alloc (Obj.cells #[Value.func (.func 52) #[] #[.pointer (some ⟨w.heap.size+1+1+1,0,none⟩),.pointer (some ⟨w.heap.size,0,none⟩),.pointer (some ⟨w.heap.size+1,0,none⟩),.pointer (some ⟨w.heap.size+1+1+1+1,0,none⟩)]] 113):=⟨_,rfl⟩
  have s5:W5.heap.size=w.heap.size+1+1+1+1+1:=by rw [hW5,bT,s4]
  have p5:W5.heap[w.heap.size+1+1+1+1]? =some (.cells #[Value.func (.func 52) #[] #[.pointer (some ⟨w.heap.size+1+1+1,0,none⟩),.pointer (some ⟨w.heap.size,0,none⟩),.pointer (some ⟨w.heap.size+1,0,none⟩),.pointer (some ⟨w.heap.size+1+1+1+1,0,none⟩)]] 113 (0,0)):=by rw [hW5,←s4];exact dh _ _
  have b5:Below W4.heap.size W4 W5:=by rw [hW5];exact aA (Below.refl _ _) _
  rw [←hW5]
  have hb:Below w.heap.size w W5:=ak (ak (ak (ak b1 b2) b3) b4) b5
  have hb0:=P.below.size
  obtain ⟨c,hP,_⟩:=P.prj
  have hfl:=hP.hm.lt
  have hcl:=hP.hc.lt
  have f1:=(b5.block (w.heap.size+1+1+1) (by omega)).trans p4
  have f2:=(b5.block w.heap.size (by omega)).trans ((b4.block w.heap.size (by omega)).trans ((b3.block w.heap.size (by omega)).trans ((b2.block w.heap.size (by omega)).trans p1)))
  have f3:=(b5.block (w.heap.size+1) (by omega)).trans ((b4.block (w.heap.size+1) (by omega)).trans ((b3.block (w.heap.size+1) (by omega)).trans p2))
  have f4:=(b5.block (w.heap.size+1+1) (by omega)).trans ((b4.block (w.heap.size+1+1) (by omega)).trans p3)
  let I:Ids:=⟨w.heap.size+1+1+1,w.heap.size,w.heap.size+1,w.heap.size+1+1+1+1,w.heap.size+1+1,w.heap.size⟩
  have S5:WS us er w0 m pv PB fm cm I W5 (.slice none 0 0) [] []:={
   ps:=P.step hb
   mc:=f1
   pc:=f2
   oc:=f3
   wc:=p5
   mm:=⟨[],⟨_,_,f4,rfl⟩,fun n=>⟨fun h=>by simp at h,fun _=>rfl⟩⟩
   out:=Kd.gQ _ _ _ _ _
   b0:=hb0
   bo:=Nat.le_succ _
   bm:=by show w.heap.size≤w.heap.size+1+1;omega
   nf:=by show w.heap.size+1+1≠fm;omega
   nc:=by show w.heap.size+1+1≠cm;omega}
  have hsm:=E.small
  have hll:=left_le names []
  refine (walk_any E names.length name [] [] (.slice none 0 0) W5 hn hll (by simp;omega) S5).mono ?_
  rintro e w' ⟨er',met',out',v',rfl,hw,hs,hf⟩
  refine ⟨er',met',out',v',rfl,hw,hs.oc,hs.out,hs.ps,by have:=hf.size;omega,fun k h1 h2=> ?_⟩
  exact (hf.keep k (by omega) h2 (by show k≠w.heap.size+1+1;omega) (by show k≠w.heap.size+1;omega) (by simp [Value.ownBlock])).trans (hb.block k h1)
 clear E P hn hS
 go_enter Tryz.func26,Tryz.ntmps26
 go_wp2_with (go_at_call 52;go_loud (refine H52.mono ?_;rintro e w6 ⟨er6,met6,out6,v6,rfl,hw6,ho6,hr6,hp6,hs6,hk6⟩;obtain ⟨A6,c6,rfl⟩:=Kd.bF hr6;have o6:w6.cell? ⟨w.heap.size+1,0,none⟩=some (.slice A6 out6.length c6):=(by have:=cell_of_row _ _ 0 _ _ _ ho6;simpa using this);have HX6:=z0 (And.intro hw6 (And.intro hr6 (And.intro hp6 (And.intro hs6 hk6))));clear hw6 ho6 hr6 hp6 hs6 hk6))
 · rename_i h5
   have h5':er6≠0:=by simpa using h5
   go_ret2
   obtain ⟨h1,h2,h3,h4,h6⟩:=HX6.out
   exact ⟨er6,met6,out6,_,rfl,h1,by rw [if_neg h5'];exact Kd.gQ _ _ _ _ _,h3,h4,h6⟩
 · rename_i h5
   have h5':er6=0:=by simpa using h5
   subst h5'
   go_ret2
   obtain ⟨h1,h2,h3,h4,h6⟩:=HX6.out
   exact ⟨0,met6,out6,_,rfl,h1,by rw [if_pos rfl];exact h2,h3,h4,h6⟩
end
end Go.Proofs.YtolaiebjmhieiaaGreatDoor.OScan
end
section
namespace Go.Proofs.YtolaiebjmhieiaaGreatDoor.OScan
open Go.RowKit YtolaiebjmhieiaaGreatDoorW.PrintWords YtolaiebjmhieiaaGreatDoorW.PrintLast YtolaiebjmhieiaaGreatDoorW.PrintMore
open Go.MuLone
theorem JC (m c:AL)(name text:ByteArray)(pv:Value)(PB fm cm:Nat)(w0 w:World)(HP:uU w0.heap.size w PB fm cm pv m c)(HB:Below w0.heap.size w0 w)(hG:jg w0)(hc:eF c name=none)
 (ht:(eF m name).getD (.string ⟨#[]⟩)= .string text) (hsz:text.size≤140737488355328) (hs0:(eG text).2=0) (ks:List ByteArray) (hyl:(eG text).1.length≤900000) (hkl:ks.length=(eG text).1.length)
 (hK:∀(i:Nat) (t:Tk),(eG text).1[i]? =some t→∃r,ks[i]? =some r∧rD t r) (he:(bZ ks).2.1≠0):
 Calls Tryz.prog 21 #[.pointer (some ⟨PB,0,none⟩),.string name] w fun e w'=>∃rb,e= .returned (.pointer (some ⟨rb,0,none⟩))∧EZ w0 w w' PB cm c name rb [] (bZ ks).2.1:=by
 have hP:=HP.hP
 have hPB:=aT hP
 have p2:w.cell? ⟨PB,2,none⟩=some (.int .i32 0):=by have:=cell_of_row w PB 2 _ _ _ hP;simpa using this
 have f2:=aj hP 2
 have hP1:=dR hP 2 (.int .i32 1) rfl
 have hcP:cm≠PB:=by
  rintro e
  obtain ⟨es,cl,h1,_⟩:=HP.hc
  rw [e,hP] at h1
  cases h1
 have hfP:fm≠PB:=by
  rintro e
  obtain ⟨es,cl,h1,_⟩:=HP.hm
  rw [e,hP] at h1
  cases h1
 have hcs:=HP.hc.lt
 have hfs:=HP.hm.lt
 have HL:=lock_free Tryz.muLib ⟨PB,2,none⟩ w p2 f2
 obtain ⟨W1,hW1⟩:∃W1,W1=w.setCell ⟨PB,2,none⟩ (.int .i32 1):=⟨_,rfl⟩
 rw [←hW1] at HL hP1
 have hs1:W1.heap.size=w.heap.size:=by rw [hW1];simp
 have k1:∀k,k≠PB→W1.heap[k]? =w.heap[k]? :=fun k hk=>by rw [hW1];exact Below.heap_setCell _ ⟨PB,2,none⟩ _ k hk
 have B1:Below w0.heap.size w0 W1:=by rw [hW1];exact HB.setCell HP.bP _
 have hM1:gB W1 cm c:=HP.hc.same (k1 _ hcP)
 have hF1:gB W1 fm m:=HP.hm.same (k1 _ hfP)
 obtain ⟨W2,hW2⟩:∃W2,W2=W1.alloc (.cells #[Value.slice none 0 0,Value.slice none 0 0,Value.int .i64 0] 54):=⟨_,rfl⟩
 have B2:Below w0.heap.size w0 W2:=by rw [hW2];exact aA B1 _
 have k2:∀k,k<w.heap.size→W2.heap[k]? =W1.heap[k]? :=fun k hk=>by rw [hW2];exact Below.heap_alloc _ _ _ (by omega)
 have hM2:gB W2 cm c:=hM1.same (k2 _ hcs)
 have hF2:gB W2 fm m:=hF1.same (k2 _ hfs)
 obtain ⟨rb,hrb⟩:∃rb,rb=W1.heap.size:=⟨_,rfl⟩
 have hR2:W2.heap[rb]? =some (.cells #[Value.slice none 0 0,Value.slice none 0 0,Value.int .i64 0] 54 (0,0)):=by rw [hW2,hrb];exact dh _ _
 have hs2:W2.heap.size=w.heap.size+1:=by rw [hW2,bT,hs1]
 obtain ⟨W3,hrun,hM3,hO3⟩:=hM2.put (mt:=83) (e:=50) Tryz.underlying83 name (.pointer (some ⟨rb,0,none⟩))
 have hF3:gB W3 fm m:=hF2.same (hO3.block _ HP.ne)
 have B3:Below w0.heap.size w0 W3:=hO3.below B2 HP.bc
 have hlk1:=hM1.qB Tryz.underlying83 name (.pointer none) (fun _=>rfl)
 rw [hc] at hlk1
 simp only [Option.getD_none,Option.isSome_none] at hlk1
 have hlk3:=hF3.get Tryz.underlying75 name (.string ⟨#[]⟩) (fun _=>rfl)
 rw [ht] at hlk3
 have hP2:=(k2 _ hPB).trans hP1
 have hP3:=(hO3.block _ (Ne.symm hcP)).trans hP2
 have hR3:=(hO3.block rb (by omega)).trans hR2
 have a1:W1.cell? ⟨PB,4,none⟩=some (.map (some cm)):=by have:=cell_of_row _ PB 4 _ _ _ hP1;simpa using this
 have a2:W2.cell? ⟨PB,4,none⟩=some (.map (some cm)):=by have:=cell_of_row _ PB 4 _ _ _ hP2;simpa using this
 have a3:W3.cell? ⟨PB,0,none⟩=some (.map (some fm)):=by have:=cell_of_row _ PB 0 _ _ _ hP3;simpa using this
 have H40:=pV text W3 (hG.below B3) hsz
 have K3:∀k,k<w.heap.size→k≠PB→k≠cm→W3.heap[k]? =w.heap[k]? :=fun k h1 h2 h3=>(hO3.block k h3).trans ((k2 k h1).trans (k1 k h2))
 have s3:w.heap.size<W3.heap.size:=by rw [hO3.size,hs2];omega
 have er0:((bZ ks).2.1 !=0)=true:=by simpa using he
 rw [hs0] at H40
 have hrbs:rb<W3.heap.size:=aT hR3
 have hPs:PB<W3.heap.size:=aT hP3
 have hcs3:cm<W3.heap.size:=hM3.lt
 have hrP:rb≠PB:=by omega
 have hrc:rb≠cm:=by omega
 generalize (eG text).1=ys at *
 have H41:ah (∀(W:World) (A:Option Addr) (c:Nat),Kd.C kTk W A ys.length ys→ys.length≤c→Below w0.heap.size w0 W→Calls Tryz.prog 41 #[.slice A ys.length c] W fun e w'=>∃v,e= .returned (.tuple #[v,.int .i64 (bZ ks).2.1,.int .i64 (bZ ks).2.2])∧Kd.R kGr 134 w' W.heap.size (fun _=>True) v (bZ ks).1∧Below W.heap.size W w'):=⟨fun W A c h1 h2 h3=>xq ys ks W A c h1 h2 (hG.below h3) hyl hkl hK⟩
 generalize (bZ ks).2.1=er at *
 generalize (bZ ks).2.2=gat at *
 generalize (bZ ks).1=ggs at *
 rw [hW2] at hrun a2
 rw [hrb] at hrun
 have HX:=z0 (And.intro hR3 (And.intro hP3 (And.intro hM3 (And.intro B3 K3))))
 have HRB:=z0 hrb
 have HPP:=z0 HP
 have HYP:=z0 (And.intro hP (And.intro s3 (And.intro hrbs (And.intro hPs (And.intro hcs3 (And.intro hrP hrc))))))
 have HS1:=z0 hs1
 clear hM1 hF1 B1 k1 hM2 hF2 B2 k2 hR2 hs2 hO3 hF3 B3 hP2 hP3 hR3 hP1 hW1 hW2 HP hP p2 f2 hs1 K3 s3 hrb hrbs hPs hcs3 hrP hrc hcs hfs hcP hfP hPB he hM3 HB hG hc ht hsz hs0 hkl hK hyl
 go_enter_defers Tryz.func21,Tryz.ntmps21
 go_wp2_with (first|(go_at_call 38;go_loud (refine HL.mono ?_;rintro e w' ⟨rfl,rfl⟩))|(go_at_call 40;go_loud (refine H40.mono ?_;rintro e w8 ⟨v8,rfl,hr8,hb8⟩;obtain ⟨A8,c8,rfl⟩:=Kd.bF hr8;obtain ⟨hR3,hP3,hM3,B3,K3⟩:=HX.out;obtain ⟨_,_,hrbs,hPs,hcs3,_,_⟩:=HYP.out;have hR8:=(hb8.block _ hrbs).trans hR3;have hP8:=(hb8.block _ hPs).trans hP3;have m0:w8.cell? ⟨rb,0,none⟩=some (.slice none 0 0):=(by have:=cell_of_row _ rb 0 _ _ _ hR8;simpa using this);have m2:w8.cell? ⟨rb,2,none⟩=some (.int .i64 0):=(by have:=cell_of_row _ rb 2 _ _ _ hR8;simpa using this);have g0:=aj hR8 0;have g2:=aj hR8 2;rw [HRB.out] at m0 m2 g0 g2;have HR8:=z0 hR8;have HP8:=z0 hP8;have HT8:=z0 hr8;have HB8:=z0 hb8;clear hr8 hb8 hR3 hP3 hM3 B3 K3 hrbs hPs hcs3 hR8 hP8)))
 obtain ⟨W9,hW9⟩:∃W9,W9=((w8.setCell {block:=w'.heap.size,off:=0} (Value.slice A8 ys.length c8)).setCell {block:=w'.heap.size,off:=2} (Value.int IntKind.i64 0)):=⟨_,rfl⟩
 rw [←hW9]
 rw [←HRB.out] at hW9 ⊢
 obtain ⟨hR3,hP3,hM3,B3,K3⟩:=HX.out
 obtain ⟨hP,s3,hrbs,hPs,hcs3,hrP,hrc⟩:=HYP.out
 have hR9a:=dR HR8.out 0 (Value.slice A8 ys.length c8) rfl
 have hR9:W9.heap[rb]? =some (.cells #[Value.slice A8 ys.length c8,Value.slice none 0 0,Value.int .i64 0] 54 (0,0)):=by rw [hW9];exact dR hR9a 2 _ rfl
 have hP9:W9.heap[PB]? =some (.cells #[Value.map (some fm),pv,Value.int .i32 1,Value.int .u32 0,Value.map (some cm)] 87 (0,0)):=by rw [hW9];exact dX (dX HP8.out (Ne.symm hrP) _) (Ne.symm hrP) _
 have k9:∀k,k≠rb→W9.heap[k]? =w8.heap[k]? :=fun k hk=>by rw [hW9];exact (Below.heap_setCell _ ⟨rb,2,none⟩ _ k hk).trans (Below.heap_setCell _ ⟨rb,0,none⟩ _ k hk)
 have hrb0:w.heap.size≤rb:=by have h1:=HRB.out;have h2:=HS1.out;omega
 have hw0:w0.heap.size≤rb:=by have:=HPP.out.bP;have:=aT hP;omega
 have B9:Below w0.heap.size w0 W9:=by rw [hW9];exact ((ak B3 HB8.out).setCell hw0 _).setCell hw0 _
 have hs98:W9.heap.size=w8.heap.size:=by rw [hW9];simp
 have hT9:Kd.R kTk 95 W9 W3.heap.size (fun _=>True) (.slice A8 ys.length c8) ys:=by rw [hW9];exact Kd.lV (Kd.lV HT8.out HR8.out (by decide) 0 _) hR9a (by decide) 2 _
 have hC9:=Kd.aZ hT9
 refine (H41.out W9 A8 c8 hC9.2.2 hC9.2.1 B9).mono ?_
 rintro e w10 ⟨v10,rfl,hr10,hb10⟩
 have hR10:=(hb10.block _ (aT hR9)).trans hR9
 have hP10:=(hb10.block _ (aT hP9)).trans hP9
 have q0:w10.cell? ⟨rb,0,none⟩=some (.slice A8 ys.length c8):=by have:=cell_of_row _ rb 0 _ _ _ hR10;simpa using this
 have q2:w10.cell? ⟨rb,2,none⟩=some (.int .i64 0):=by have:=cell_of_row _ rb 2 _ _ _ hR10;simpa using this
 have q3:=aj hR10 2
 have HP10:=z0 hP10
 have HR10:=z0 hR10
 have HB10:=z0 hb10
 have HK9:=z0 (And.intro k9 (And.intro hrb0 (And.intro hw0 (And.intro B9 hs98))))
 clear hR9a hR9 hP9 k9 hrb0 hw0 B9 hs98 hT9 hC9 hb10 hR10 hP10 hR3 hP3 hM3 B3 K3 hP s3 hrbs hPs hcs3 hrP hrc m0 m2 g0 g2 hW9
 go_wp2
 obtain ⟨W11,hW11⟩:∃W11,W11=w10.setCell {block:=rb,off:=2} (Value.int IntKind.i64 er):=⟨_,rfl⟩
 rw [←hW11]
 obtain ⟨hR3,hP3,hM3,B3,K3⟩:=HX.out
 obtain ⟨hP,s3,hrbs,hPs,hcs3,hrP,hrc⟩:=HYP.out
 obtain ⟨k9,hrb0,hw0,B9,hs98⟩:=HK9.out
 have hR11:W11.heap[rb]? =some (.cells #[Value.slice A8 ys.length c8,Value.slice none 0 0,Value.int .i64 er] 54 (0,0)):=by rw [hW11];exact dR HR10.out 2 _ rfl
 have hP11:W11.heap[PB]? =some (.cells #[Value.map (some fm),pv,Value.int .i32 1,Value.int .u32 0,Value.map (some cm)] 87 (0,0)):=by rw [hW11];exact dX HP10.out (Ne.symm hrP) _
 have k11:∀k,k<W3.heap.size→k≠rb→W11.heap[k]? =W3.heap[k]? :=fun k h1 hk=>by
  have h8:=HB8.out.size
  rw [hW11]
  exact (Below.heap_setCell _ ⟨rb,2,none⟩ _ k hk).trans ((HB10.out.block k (by omega)).trans ((k9 k hk).trans (HB8.out.block k h1)))
 have B11:Below w0.heap.size w0 W11:=by rw [hW11];exact (ak B9 HB10.out).setCell hw0 _
 have d1:W11.cell? ⟨PB,2,none⟩=some (.int .i32 1):=by have:=cell_of_row _ PB 2 _ _ _ hP11;simpa using this
 have d2:=aj hP11 2
 refine leaves_cons (f:=39) (args:= #[.pointer (some ⟨PB,2,none⟩)]) (by simp) (by simp [go_sem]) ?_
 refine (unlock_deferred Tryz.muLib ⟨PB,2,none⟩ .returning W11 d1 d2).mono ?_
 rintro e u' w'' ⟨rfl,rfl,rfl⟩
 refine ⟨_,results_tmp rfl _ _ _,rb,rfl,⟨⟨hw0,_,_,dX hR11 hrP _,Kd.gQ _ _ _ _ _⟩,hrb0,hM3.same ?_,?_,B11.setCell HPP.out.bP _,fun k h1 h2 h3=> ?_⟩⟩
 · exact (Below.heap_setCell _ ⟨PB,2,none⟩ _ cm (by
    rintro e
    obtain ⟨es,cl,h1,_⟩:=HPP.out.hc
    have e':cm=PB:=e
    rw [e',hP] at h1
    cases h1)).trans (k11 cm hcs3 (Ne.symm hrc))
 · rw [hP];exact dR hP11 2 _ rfl
 · exact (Below.heap_setCell _ ⟨PB,2,none⟩ _ k h2).trans ((k11 k (by omega) (by omega)).trans (K3 k h1 h2 h3))
def usF (incs:Nat→Option (ByteArray × Bool))(files:Nat→ByteArray)(gs:List Gr):Nat→List Us
 |0=>[]
 |k+1=>usF incs files gs k++(match incs k with|some (n,q)=>if lY gs k=true then [(n,q,files k)] else []|none=>[])
theorem pK (incs:Nat→Option (ByteArray × Bool))(files:Nat→ByteArray)(gs:List Gr):∀k,(usF incs files gs k).length≤k
 |0=>Nat.le_refl _
 |k+1=>by
  have:=pK incs files gs k
  unfold usF
  rw [List.length_append]
  split
  · split<;>simp<;>omega
  · simp;omega
def wM (Q:Exit→Act→World→Prop):Exit→Act→World→Prop:=fun e a w=>match e with| .normal=>Q .normal a w|_=>False
theorem wL (Q:Exit→Act→World→Prop):∀e a w,wM Q e a w→Q e a w:=fun e a w h=>by
 cases e with
 |normal=>exact h
 |_=>exact h.elim
theorem JB (m c:AL)(name text:ByteArray)(Ap:Option Addr)(np cp:Nat)(PB fm cm:Nat)(w0 w:World)(HP:uU w0.heap.size w PB fm cm (.slice Ap np cp) m c)(HB:Below w0.heap.size w0 w)(hG:jg w0)(hc:eF c name=none)
 (ht:(eF m name).getD (.string ⟨#[]⟩)= .string text) (hsz:text.size≤140737488355328) (hs0:(eG text).2=0) (ks:List ByteArray) (hyl:(eG text).1.length≤900000) (hkl:ks.length=(eG text).1.length)
 (hK:∀(i:Nat) (t:Tk),(eG text).1[i]? =some t→∃r,ks[i]? =some r∧rD t r) (he:(bZ ks).2.1=0)
 (hgs:∀g∈(bZ ks).1,2≤g.1.length∧g.1.length≤1000000) (hgl:(bZ ks).1.length≤1000000) (incs:Nat→Option (ByteArray × Bool)) (files:Nat→ByteArray)
 (hInc:∀(i:Nat) (t:Tk),(eG text).1[i]? =some t→∀W,jg W→Calls Tryz.prog 42 #[.agg #[.int .i64 t.1,.string t.2.1,.string t.2.2.1,.int .i64 t.2.2.2]] W fun e w'=>e= .returned (.tuple #[xU (incs i),.bool (incs i).isSome])∧Below W.heap.size W w')
 (hFind:∀(i:Nat) (n:ByteArray) (q:Bool),incs i=some (n,q)→lY (bZ ks).1 i=true→∀W,Below w0.heap.size w0 W→ND W PB fm cm 1 (.slice Ap np cp) m→Calls Tryz.prog 44 #[.pointer (some ⟨PB,0,none⟩),.string name,.agg #[.string n,.bool q,.string ⟨#[]⟩]] W fun e w'=>e= .returned (.string (files i))∧Below W.heap.size W w'):
 Calls Tryz.prog 21 #[.pointer (some ⟨PB,0,none⟩),.string name] w fun e w'=>∃rb,e= .returned (.pointer (some ⟨rb,0,none⟩))∧EZ w0 w w' PB cm c name rb (usF incs files (bZ ks).1 (eG text).1.length) 0:=by
 have hP:=HP.hP
 have hPB:=aT hP
 have p2:w.cell? ⟨PB,2,none⟩=some (.int .i32 0):=by have:=cell_of_row w PB 2 _ _ _ hP;simpa using this
 have f2:=aj hP 2
 have hP1:=dR hP 2 (.int .i32 1) rfl
 have hcP:cm≠PB:=by
  rintro e
  obtain ⟨es,cl,h1,_⟩:=HP.hc
  rw [e,hP] at h1
  cases h1
 have hfP:fm≠PB:=by
  rintro e
  obtain ⟨es,cl,h1,_⟩:=HP.hm
  rw [e,hP] at h1
  cases h1
 have hcs:=HP.hc.lt
 have hfs:=HP.hm.lt
 have HL:=lock_free Tryz.muLib ⟨PB,2,none⟩ w p2 f2
 obtain ⟨W1,hW1⟩:∃W1,W1=w.setCell ⟨PB,2,none⟩ (.int .i32 1):=⟨_,rfl⟩
 rw [←hW1] at HL hP1
 have hs1:W1.heap.size=w.heap.size:=by rw [hW1];simp
 have k1:∀k,k≠PB→W1.heap[k]? =w.heap[k]? :=fun k hk=>by rw [hW1];exact Below.heap_setCell _ ⟨PB,2,none⟩ _ k hk
 have B1:Below w0.heap.size w0 W1:=by rw [hW1];exact HB.setCell HP.bP _
 have hM1:gB W1 cm c:=HP.hc.same (k1 _ hcP)
 have hF1:gB W1 fm m:=HP.hm.same (k1 _ hfP)
 obtain ⟨W2,hW2⟩:∃W2,W2=W1.alloc (.cells #[Value.slice none 0 0,Value.slice none 0 0,Value.int .i64 0] 54):=⟨_,rfl⟩
 have B2:Below w0.heap.size w0 W2:=by rw [hW2];exact aA B1 _
 have k2:∀k,k<w.heap.size→W2.heap[k]? =W1.heap[k]? :=fun k hk=>by rw [hW2];exact Below.heap_alloc _ _ _ (by omega)
 have hM2:gB W2 cm c:=hM1.same (k2 _ hcs)
 have hF2:gB W2 fm m:=hF1.same (k2 _ hfs)
 obtain ⟨rb,hrb⟩:∃rb,rb=W1.heap.size:=⟨_,rfl⟩
 have hR2:W2.heap[rb]? =some (.cells #[Value.slice none 0 0,Value.slice none 0 0,Value.int .i64 0] 54 (0,0)):=by rw [hW2,hrb];exact dh _ _
 have hs2:W2.heap.size=w.heap.size+1:=by rw [hW2,bT,hs1]
 obtain ⟨W3,hrun,hM3,hO3⟩:=hM2.put (mt:=83) (e:=50) Tryz.underlying83 name (.pointer (some ⟨rb,0,none⟩))
 have hF3:gB W3 fm m:=hF2.same (hO3.block _ HP.ne)
 have B3:Below w0.heap.size w0 W3:=hO3.below B2 HP.bc
 have hlk1:=hM1.qB Tryz.underlying83 name (.pointer none) (fun _=>rfl)
 rw [hc] at hlk1
 simp only [Option.getD_none,Option.isSome_none] at hlk1
 have hlk3:=hF3.get Tryz.underlying75 name (.string ⟨#[]⟩) (fun _=>rfl)
 rw [ht] at hlk3
 have hP2:=(k2 _ hPB).trans hP1
 have hP3:=(hO3.block _ (Ne.symm hcP)).trans hP2
 have hR3:=(hO3.block rb (by omega)).trans hR2
 have a1:W1.cell? ⟨PB,4,none⟩=some (.map (some cm)):=by have:=cell_of_row _ PB 4 _ _ _ hP1;simpa using this
 have a2:W2.cell? ⟨PB,4,none⟩=some (.map (some cm)):=by have:=cell_of_row _ PB 4 _ _ _ hP2;simpa using this
 have a3:W3.cell? ⟨PB,0,none⟩=some (.map (some fm)):=by have:=cell_of_row _ PB 0 _ _ _ hP3;simpa using this
 have H40:=pV text W3 (hG.below B3) hsz
 have K3:∀k,k<w.heap.size→k≠PB→k≠cm→W3.heap[k]? =w.heap[k]? :=fun k h1 h2 h3=>(hO3.block k h3).trans ((k2 k h1).trans (k1 k h2))
 have s3:w.heap.size<W3.heap.size:=by rw [hO3.size,hs2];omega
 rw [hs0] at H40
 have hrbs:rb<W3.heap.size:=aT hR3
 have hPs:PB<W3.heap.size:=aT hP3
 have hcs3:cm<W3.heap.size:=hM3.lt
 have hrP:rb≠PB:=by omega
 have hrc:rb≠cm:=by omega
 generalize (eG text).1=ys at *
 have H41:ah (∀(W:World) (A:Option Addr) (c:Nat),Kd.C kTk W A ys.length ys→ys.length≤c→Below w0.heap.size w0 W→Calls Tryz.prog 41 #[.slice A ys.length c] W fun e w'=>∃v,e= .returned (.tuple #[v,.int .i64 (bZ ks).2.1,.int .i64 (bZ ks).2.2])∧Kd.R kGr 134 w' W.heap.size (fun _=>True) v (bZ ks).1∧Below W.heap.size W w'):=⟨fun W A c h1 h2 h3=>xq ys ks W A c h1 h2 (hG.below h3) hyl hkl hK⟩
 rw [he] at H41
 generalize (bZ ks).2.2=gat at *
 generalize (bZ ks).1=ggs at *
 rw [hW2] at hrun a2
 rw [hrb] at hrun
 have HX:=z0 (And.intro hR3 (And.intro hP3 (And.intro hM3 (And.intro B3 K3))))
 have HRB:=z0 hrb
 have HPP:=z0 HP
 have HYP:=z0 (And.intro hP (And.intro s3 (And.intro hrbs (And.intro hPs (And.intro hcs3 (And.intro hrP hrc))))))
 have HS1:=z0 hs1
 clear hM1 hF1 B1 k1 hM2 hF2 B2 k2 hR2 hs2 hO3 hF3 B3 hP2 hP3 hR3 hP1 hW1 hW2 HP hP p2 f2 hs1 K3 s3 hrb hrbs hPs hcs3 hrP hrc hcs hfs hcP hfP hPB he hM3 HB hc ht hsz hs0 hkl hK
 go_enter_defers Tryz.func21,Tryz.ntmps21
 go_wp2_with (first|(go_at_call 38;go_loud (refine HL.mono ?_;rintro e w' ⟨rfl,rfl⟩))|(go_at_call 40;go_loud (refine H40.mono ?_;rintro e w8 ⟨v8,rfl,hr8,hb8⟩;obtain ⟨A8,c8,rfl⟩:=Kd.bF hr8;obtain ⟨hR3,hP3,hM3,B3,K3⟩:=HX.out;obtain ⟨_,_,hrbs,hPs,hcs3,_,_⟩:=HYP.out;have hR8:=(hb8.block _ hrbs).trans hR3;have hP8:=(hb8.block _ hPs).trans hP3;have m0:w8.cell? ⟨rb,0,none⟩=some (.slice none 0 0):=(by have:=cell_of_row _ rb 0 _ _ _ hR8;simpa using this);have m2:w8.cell? ⟨rb,2,none⟩=some (.int .i64 0):=(by have:=cell_of_row _ rb 2 _ _ _ hR8;simpa using this);have g0:=aj hR8 0;have g2:=aj hR8 2;rw [HRB.out] at m0 m2 g0 g2;have HR8:=z0 hR8;have HP8:=z0 hP8;have HT8:=z0 hr8;have HB8:=z0 hb8;clear hr8 hb8 hR3 hP3 hM3 B3 K3 hrbs hPs hcs3 hR8 hP8)))
 obtain ⟨W9,hW9⟩:∃W9,W9=((w8.setCell {block:=w'.heap.size,off:=0} (Value.slice A8 ys.length c8)).setCell {block:=w'.heap.size,off:=2} (Value.int IntKind.i64 0)):=⟨_,rfl⟩
 rw [←hW9]
 rw [←HRB.out] at hW9 ⊢
 obtain ⟨hR3,hP3,hM3,B3,K3⟩:=HX.out
 obtain ⟨hP,s3,hrbs,hPs,hcs3,hrP,hrc⟩:=HYP.out
 have hR9a:=dR HR8.out 0 (Value.slice A8 ys.length c8) rfl
 have hR9:W9.heap[rb]? =some (.cells #[Value.slice A8 ys.length c8,Value.slice none 0 0,Value.int .i64 0] 54 (0,0)):=by rw [hW9];exact dR hR9a 2 _ rfl
 have hP9:W9.heap[PB]? =some (.cells #[Value.map (some fm),Value.slice Ap np cp,Value.int .i32 1,Value.int .u32 0,Value.map (some cm)] 87 (0,0)):=by rw [hW9];exact dX (dX HP8.out (Ne.symm hrP) _) (Ne.symm hrP) _
 have k9:∀k,k≠rb→W9.heap[k]? =w8.heap[k]? :=fun k hk=>by rw [hW9];exact (Below.heap_setCell _ ⟨rb,2,none⟩ _ k hk).trans (Below.heap_setCell _ ⟨rb,0,none⟩ _ k hk)
 have hrb0:w.heap.size≤rb:=by have h1:=HRB.out;have h2:=HS1.out;omega
 have hw0:w0.heap.size≤rb:=by have:=HPP.out.bP;have:=aT hP;omega
 have B9:Below w0.heap.size w0 W9:=by rw [hW9];exact ((ak B3 HB8.out).setCell hw0 _).setCell hw0 _
 have hs98:W9.heap.size=w8.heap.size:=by rw [hW9];simp
 have hT9:Kd.R kTk 95 W9 W3.heap.size (fun _=>True) (.slice A8 ys.length c8) ys:=by rw [hW9];exact Kd.lV (Kd.lV HT8.out HR8.out (by decide) 0 _) hR9a (by decide) 2 _
 have hC9:=Kd.aZ hT9
 refine (H41.out W9 A8 c8 hC9.2.2 hC9.2.1 B9).mono ?_
 rintro e w10 ⟨v10,rfl,hr10,hb10⟩
 obtain ⟨A10,c10,rfl⟩:=Kd.bF hr10
 have hT10:Kd.R kTk 95 w10 W3.heap.size (fun k=>True∧k≠rb) (.slice A8 ys.length c8) ys:=Kd.dn (Kd.vI hT9 hR9 (by decide)) hb10
 have hG10:Kd.R kGr 134 w10 W9.heap.size (fun k=>True∧k≠rb) (.slice A10 ggs.length c10) ggs:=Kd.vI hr10 ((hb10.block _ (aT hR9)).trans hR9) (by decide)
 have HT10:=z0 hT10
 have HG10:=z0 hG10
 have hR10:=(hb10.block _ (aT hR9)).trans hR9
 have hP10:=(hb10.block _ (aT hP9)).trans hP9
 have q0:w10.cell? ⟨rb,0,none⟩=some (.slice A8 ys.length c8):=by have:=cell_of_row _ rb 0 _ _ _ hR10;simpa using this
 have q2:w10.cell? ⟨rb,2,none⟩=some (.int .i64 0):=by have:=cell_of_row _ rb 2 _ _ _ hR10;simpa using this
 have q3:=aj hR10 2
 have HP10:=z0 hP10
 have HR10:=z0 hR10
 have HB10:=z0 hb10
 have HK9:=z0 (And.intro k9 (And.intro hrb0 (And.intro hw0 (And.intro B9 hs98))))
 clear hr10 hT10 hG10 hR9a hR9 hP9 k9 hrb0 hw0 B9 hs98 hT9 hC9 hb10 hR10 hP10 hR3 hP3 hM3 B3 K3 hP s3 hrbs hPs hcs3 hrP hrc m0 m2 g0 g2 hW9
 go_wp2
 obtain ⟨WL,hWL⟩:∃WL,WL=w10.setCell {block:=rb,off:=2} (Value.int IntKind.i64 0):=⟨_,rfl⟩
 rw [←hWL]
 have HTL:ah (Kd.R kTk 95 WL W3.heap.size (fun k=>True∧k≠rb) (.slice A8 ys.length c8) ys):=⟨by rw [hWL];exact Kd.xM HT10.out (fun k hk=>hk.2) _⟩
 have HGL:ah (Kd.R kGr 134 WL W9.heap.size (fun k=>True∧k≠rb) (.slice A10 ggs.length c10) ggs):=⟨by rw [hWL];exact Kd.xM HG10.out (fun k hk=>hk.2) _⟩
 have HRL:ah (WL.heap[rb]? =some (.cells #[Value.slice A8 ys.length c8,Value.slice none 0 0,Value.int .i64 0] 54 (0,0))):=⟨by rw [hWL];exact dR HR10.out 2 _ rfl⟩
 have HPL:ah (WL.heap[PB]? =some (.cells #[Value.map (some fm),Value.slice Ap np cp,Value.int .i32 1,Value.int .u32 0,Value.map (some cm)] 87 (0,0))):=⟨by rw [hWL];exact dX HP10.out (Ne.symm HYP.out.2.2.2.2.2.1) _⟩
 have HBL:ah (Below w0.heap.size w0 WL):=⟨by rw [hWL];exact (ak HK9.out.2.2.2.1 HB10.out).setCell HK9.out.2.2.1 _⟩
 have HKL:ah (∀k,k<W3.heap.size→k≠rb→WL.heap[k]? =W3.heap[k]?):=⟨fun k h1 hk=>by
  have h8:=HB8.out.size
  have h9:=HK9.out.2.2.2.2
  rw [hWL]
  exact (Below.heap_setCell _ ⟨rb,2,none⟩ _ k hk).trans ((HB10.out.block k (by omega)).trans ((HK9.out.1 k hk).trans (HB8.out.block k h1)))⟩
 clear hWL q0 q2 q3 HT10 HG10 HR10 HP10
 go_loopg [88] ys.length (fun kq v88 w'=>∃(i:Nat) (us0:List Us) (vu:Value),v88= .int .i64 i∧ah (us0=usF incs files ggs i)∧ah (kq+i=ys.length)∧ah (w'.heap[rb]? =some (.cells #[Value.slice A8 ys.length c8,vu,Value.int .i64 0] 54 (0,0)))∧ah (Kd.R kUs 34 w' WL.heap.size (fun _=>True) vu us0)∧ah (aG WL w' rb none)∧ah (Below w0.heap.size w0 w'))
 case atStart=>exact ⟨0,[],_,rfl,⟨rfl⟩,⟨rfl⟩,HRL,⟨Kd.gQ _ _ _ _ _⟩,⟨aG.refl _ _ _⟩,HBL⟩
 case round=>
  obtain ⟨i,us0,vu,rfl,hus0,hki,hRr,hU,hKr,hBr⟩:=hrel
  have hki':=hki.out
  cases gk with
  |zero=>
   have hlt:decide ((i:Int)<(ys.length:Int))=false:=decide_eq_false (by omega)
   go_wp2
   obtain rfl:i=ys.length:=by omega
   obtain ⟨hR3,hP3,hM3,B3,K3⟩:=HX.out
   obtain ⟨hP,s3,hrbs,hPs,hcs3,hrP,hrc⟩:=HYP.out
   obtain ⟨k9,hrb0,hw0,B9,hs98⟩:=HK9.out
   have hPw:wr.heap[PB]? =some (.cells #[Value.map (some fm),Value.slice Ap np cp,Value.int .i32 1,Value.int .u32 0,Value.map (some cm)] 87 (0,0)):=(hKr.out.2 PB (aT HPL.out) (Ne.symm hrP) (by simp)).trans HPL.out
   have d1:wr.cell? ⟨PB,2,none⟩=some (.int .i32 1):=by have:=cell_of_row _ PB 2 _ _ _ hPw;simpa using this
   have d2:=aj hPw 2
   have hWLs:W3.heap.size≤WL.heap.size:=by
    rcases Nat.lt_or_ge WL.heap.size W3.heap.size with h|h
    · have h1:=HKL.out WL.heap.size h (by have:=aT HRL.out;omega)
      rw [Array.getElem?_eq_none (Nat.le_refl _),Array.getElem?_eq_getElem h] at h1
      cases h1
    · exact h
   refine leaves_cons (f:=39) (args:= #[.pointer (some ⟨PB,2,none⟩)]) (by simp) (by simp [go_sem]) ?_
   refine (unlock_deferred Tryz.muLib ⟨PB,2,none⟩ .returning wr d1 d2).mono ?_
   rintro e u' w'' ⟨rfl,rfl,rfl⟩
   refine ⟨_,results_tmp rfl _ _ _,rb,rfl,⟨⟨hw0,_,_,dX hRr.out hrP _,by rw [←hus0.out];exact Kd.fZ (Kd.lV hU.out hPw (by decide) 2 _) HBL.out.size⟩,hrb0,hM3.same ?_,?_,hBr.out.setCell HPP.out.bP _,fun k h1 h2 h3=> ?_⟩⟩
   · exact (Below.heap_setCell _ ⟨PB,2,none⟩ _ cm (by
      rintro e
      obtain ⟨es,cl,h1,_⟩:=HPP.out.hc
      have e':cm=PB:=e
      rw [e',hP] at h1
      cases h1)).trans ((hKr.out.2 cm (by omega) (Ne.symm hrc) (by simp)).trans (HKL.out cm hcs3 (Ne.symm hrc)))
   · rw [hP];exact dR hPw 2 _ rfl
   · exact (Below.heap_setCell _ ⟨PB,2,none⟩ _ k h2).trans ((hKr.out.2 k (by omega) (by omega) (by simp)).trans ((HKL.out k (by omega) (by omega)).trans (K3 k h1 h2 h3)))
  |succ g1=>
   have hlt:decide ((i:Int)<(ys.length:Int))=true:=decide_eq_true (by omega)
   have hii:(0:Int)≤(i:Int):=by omega
   obtain ⟨x,hx⟩:∃x,ys[i]? =some x:=⟨_,List.getElem?_eq_getElem (by omega)⟩
   have HI:=hInc i x hx
   obtain ⟨ad,hAd,hx0,hx1,hx2,hx3⟩:=uz (Kd.aZ (Kd.Ee HTL.out hKr.out (fun k hk=>hk.2))).2.2 i (by omega) x hx
   obtain rfl:=hAd
   clear hx
   obtain ⟨kd,bf,tx,a1⟩:=x
   simp only at hx0 hx1 hx2 hx3 HI
   have HII:=z0 HI
   clear HI
   have hus:usF incs files ggs (i+1)=usF incs files ggs i++(match incs i with|some (n,q)=>if lY ggs i=true then [(n,q,files i)] else []|none=>[]):=rfl
   have HUS:=z0 hus
   clear hus
   have HINC:=z0 hInc
   have HFIND:=z0 hFind
   clear hInc hFind
   cases hri:incs i with
   |none=>
    rw [hri] at HII HUS
    clear hri
    go_wp2_with (go_at_call 42;go_loud (refine (HII.out _ (hG.below (aA hBr.out _))).mono ?_;rintro e w4 ⟨he4,hb4⟩;obtain rfl:e= .returned (.tuple #[.agg #[.string ⟨#[]⟩,.bool false,.string ⟨#[]⟩],.bool false]):=he4;have HB4:=z0 (ak (aA (Below.refl wr.heap.size wr) _) hb4);clear hb4))
    obtain ⟨We,hWe⟩:∃We,We=w4.alloc (Obj.cells #[Value.string {data:= #[]},Value.bool false,Value.string {data:= #[]}] 34):=⟨_,rfl⟩
    rw [←hWe]
    have HBe:ah (Below wr.heap.size wr We):=⟨by rw [hWe];exact aA HB4.out _⟩
    clear hWe
    go_roundg g1
    case measure=>omega
    case rel=>exact ⟨i+1,us0,vu,by (try simp),⟨by rw [HUS.out,←hus0.out];simp⟩,⟨by omega⟩,⟨(HBe.out.block _ (aT hRr.out)).trans hRr.out⟩,⟨Kd.dn hU.out HBe.out⟩,⟨aG.trans hKr.out (aG.of_below HBe.out rb none) (.inl rfl)⟩,⟨ak hBr.out HBe.out⟩⟩
   |some nq=>
    obtain ⟨un,uq⟩:=nq
    have hri':=hri
    rw [hri] at HII HUS
    have HRI:=z0 hri'
    clear hri hri'
    have H43:ah (∀W,Below wr.heap.size wr W→Calls Tryz.prog 43 #[.slice A10 ggs.length c10,.int .i64 i] W fun e w'=>e= .returned (.bool (lY ggs i))∧Below W.heap.size W w'):=⟨fun W hb=>He ggs i W A10 c10 (Kd.aZ (Kd.Ee HGL.out (aG.trans hKr.out (aG.of_below hb rb none) (.inl rfl)) (fun k hk=>hk.2))).2.2 hgl hgs⟩
    obtain ⟨sb,hsb⟩:∃sb,sb=lY ggs i:=⟨_,rfl⟩
    rw [←hsb] at H43 HUS
    have HSB:=z0 hsb
    clear hsb
    cases sb with
    |false=>
     go_wp2_with (first|(go_at_call 42;go_loud (refine (HII.out _ (hG.below (aA hBr.out _))).mono ?_;rintro e w4 ⟨he4,hb4⟩;obtain rfl:e= .returned (.tuple #[.agg #[.string un,.bool uq,.string ⟨#[]⟩],.bool true]):=he4;have HB4:=z0 (ak (aA (Below.refl wr.heap.size wr) _) hb4);clear hb4))|(go_at_call 43;go_loud (refine (H43.out _ (aA HB4.out _)).mono ?_;rintro e w5 ⟨rfl,hb5⟩;have HB5:=z0 (ak (aA HB4.out _) hb5);clear hb5)))
     go_roundg g1
     case measure=>omega
     case rel=>exact ⟨i+1,us0,vu,by (try simp),⟨by rw [HUS.out,←hus0.out];simp⟩,⟨by omega⟩,⟨(HB5.out.block _ (aT hRr.out)).trans hRr.out⟩,⟨Kd.dn hU.out HB5.out⟩,⟨aG.trans hKr.out (aG.of_below HB5.out rb none) (.inl rfl)⟩,⟨ak hBr.out HB5.out⟩⟩
    |true=>
     have HF44:ah (∀W,Below wr.heap.size wr W→Calls Tryz.prog 44 #[.pointer (some ⟨PB,0,none⟩),.string name,.agg #[.string un,.bool uq,.string ⟨#[]⟩]] W fun e w'=>e= .returned (.string (files i))∧Below W.heap.size W w'):=⟨fun W hb=>by
      obtain ⟨hR3,hP3,hM3,B3,K3⟩:=HX.out
      obtain ⟨hP,s3,hrbs,hPs,hcs3,hrP,hrc⟩:=HYP.out
      have hK:=aG.trans hKr.out (aG.of_below hb rb none) (.inl rfl)
      have hrb0:=HK9.out.2.1
      have hfl:=HPP.out.hm.lt
      have hfP:fm≠PB:=by
       rintro e
       obtain ⟨es,cl,h1,_⟩:=HPP.out.hm
       rw [e,hP] at h1
       cases h1
      have hWLs:W3.heap.size≤WL.heap.size:=by
       rcases Nat.lt_or_ge WL.heap.size W3.heap.size with h|h
       · have h1:=HKL.out WL.heap.size h (by have:=aT HRL.out;omega)
         rw [Array.getElem?_eq_none (Nat.le_refl _),Array.getElem?_eq_getElem h] at h1
         cases h1
       · exact h
      exact HFIND.out i un uq HRI.out HSB.out.symm W (ak hBr.out hb) ⟨(hK.2 PB (aT HPL.out) (Ne.symm hrP) (by simp)).trans HPL.out,HPP.out.hm.same ((hK.2 fm (by omega) (by omega) (by simp)).trans ((HKL.out fm (by omega) (by omega)).trans (K3 fm hfl hfP HPP.out.ne)))⟩⟩
     go_wp2_with (first|(go_at_call 42;go_loud (refine (HII.out _ (hG.below (aA hBr.out _))).mono ?_;rintro e w4 ⟨he4,hb4⟩;obtain rfl:e= .returned (.tuple #[.agg #[.string un,.bool uq,.string ⟨#[]⟩],.bool true]):=he4;have HB4:=z0 (ak (aA (Below.refl wr.heap.size wr) _) hb4);clear hb4))|(go_at_call 43;go_loud (refine (H43.out _ (aA HB4.out _)).mono ?_;rintro e w5 ⟨rfl,hb5⟩;have hU5:=(hb5.block w4.heap.size (by simp)).trans (dh w4 (Obj.cells #[Value.string un,Value.bool uq,Value.string ⟨#[]⟩] 34));have v0:w5.cell? ⟨w4.heap.size,0,none⟩=some (.string un):=(by have:=cell_of_row _ w4.heap.size 0 _ _ _ hU5;simpa using this);have v1:w5.cell? ⟨w4.heap.size,1,none⟩=some (.bool uq):=(by have:=cell_of_row _ w4.heap.size 1 _ _ _ hU5;simpa using this);have v2:w5.cell? ⟨w4.heap.size,2,none⟩=some (.string ⟨#[]⟩):=(by have:=cell_of_row _ w4.heap.size 2 _ _ _ hU5;simpa using this);have HU5:=z0 hU5;have HB5:=z0 (ak (aA HB4.out _) hb5);clear hb5 hU5))|(go_at_call 44;go_loud (refine (HF44.out _ HB5.out).mono ?_;rintro e w6 ⟨rfl,hb6⟩;have hU6:=(hb6.block _ (aT HU5.out)).trans HU5.out;have z2:w6.cell? ⟨w4.heap.size,2,none⟩=some (.string ⟨#[]⟩):=(by have:=cell_of_row _ w4.heap.size 2 _ _ _ hU6;simpa using this);have z3:=aj hU6 2;have HU6:=z0 hU6;have HB6:=z0 (ak HB5.out hb6);clear hb6 hU6)))
     obtain ⟨U,hUe⟩:∃U,U=w4.heap.size:=⟨_,rfl⟩
     rw [←hUe]
     obtain ⟨W7,hW7⟩:∃W7,W7=w6.setCell ⟨U,2,none⟩ (Value.string (files i)):=⟨_,rfl⟩
     rw [←hW7]
     have hrbw:=aT hRr.out
     have hwU:wr.heap.size≤U:=by have:=HB4.out.size;omega
     have hUr:U≠rb:=by omega
     have hU7:W7.heap[U]? =some (.cells #[Value.string un,Value.bool uq,Value.string (files i)] 34 (0,0)):=by rw [hW7];exact dR (by rw [hUe];exact HU6.out) 2 _ rfl
     have hB7:Below wr.heap.size wr W7:=by rw [hW7];exact bC HB6.out hwU
     have hR7:W7.heap[rb]? =some (.cells #[Value.slice (some ad) ys.length c8,vu,Value.int .i64 0] 54 (0,0)):=(hB7.block _ hrbw).trans hRr.out
     obtain ⟨Au,cu,rfl⟩:=Kd.bF hU.out
     have hO7:ah (Kd.R kUs 34 W7.drew WL.heap.size (fun _=>True) (.slice Au us0.length cu) us0):=⟨Kd.fU (Kd.dn hU.out hB7)⟩
     have HWU:=z0 hwU
     have HB7:=z0 hB7
     have HR7:=z0 hR7
     have hul:us0.length≤1000000:=by rw [hus0.out];have:=pK incs files ggs i;omega
     have HUL:=z0 hul
     have HSZ7:ah (WL.heap.size≤W7.drew.heap.size):=⟨by have h1:=hKr.out.1;have h2:=HB7.out.size;show WL.heap.size≤W7.heap.size;omega⟩
     have b1:W7.drew.cell? ⟨rb,1,none⟩=some (.slice Au us0.length cu):=by have:=cell_of_row _ rb 1 _ _ _ (dF hR7);simpa using this
     have b2:W7.drew.cell? ⟨U,0,none⟩=some (.string un):=by have:=cell_of_row _ U 0 _ _ _ (dF hU7);simpa using this
     have b3:W7.drew.cell? ⟨U,1,none⟩=some (.bool uq):=by have:=cell_of_row _ U 1 _ _ _ (dF hU7);simpa using this
     have b4:W7.drew.cell? ⟨U,2,none⟩=some (.string (files i)):=by have:=cell_of_row _ U 2 _ _ _ (dF hU7);simpa using this
     have b5:(W7.alloc (Obj.cells #[Value.string un,Value.bool uq,Value.string (files i)] 34)).cell? ⟨rb,1,none⟩=some (.slice Au us0.length cu):=by have:=cell_of_row _ rb 1 _ _ _ (dN hR7 (Obj.cells #[Value.string un,Value.bool uq,Value.string (files i)] 34));simpa using this
     have HCF:ah (∀w9,World.grownBy W7.drew w9 (Value.slice Au us0.length cu).ownBlock→w9.heap[rb]? =some (.cells #[Value.slice (some ad) ys.length c8,.slice Au us0.length cu,Value.int .i64 0] 54 (0,0))):=⟨fun w9 hg=>(hg.block rb (aT hR7) (Kd.AX hO7.out (dF hR7) (by decide))).trans hR7⟩
     clear hUe hW7 hrbw hwU hUr hU7 hB7 hR7 hul z2 z3 v0 v1 v2
     obtain ⟨nu,hnu⟩:∃nu,nu=us0.length:=⟨_,rfl⟩
     rw [←hnu] at b1 b5
     have HNU:=z0 hnu
     clear hnu
     go_wp2
     refine Code.wp_mono (wL _) ?_
     go_region_law ((first|refine Kd.nK kUs (w0:=W7.drew) (W:=W7.drew) WL.heap.size (by rfl) (.tmp 113) (.tmp 115) 25 34 (.agg #[(.string ⟨#[]⟩),(.bool false),(.string ⟨#[]⟩)]) 40 ?aH Tryz.underlying25 (by kernel_rfl) rfl (by decide) (by omega) (.slice Au nu cu) us0 (un,uq,files i) [.string un,.bool uq,.string (files i)] (fun _=>True) (fun _=>False) ?aV ?aX ⟨_,_,rfl,rfl,⟨_,_,rfl,rfl,rfl⟩⟩ (fun _ h=>h.elim) (fun _ _=>trivial) ?aO (Below.refl _ _) ?aS ?aL ?_);(case aH=>rfl);(case aV=>rfl);(case aX=>rfl);(case aO=>rw [HNU.out];exact hO7.out);(case aS=>exact HSZ7.out);(case aL=>have:=HUL.out;show (us0.length+1)*40≤_;omega);intro v9 w9 ho hb hg hat;obtain ⟨A9,c9,rfl⟩:=Kd.bF ho;have hc9:=HCF.out w9 (by rw [←HNU.out];exact hg);have r0:w9.cell? ⟨rb,1,none⟩=some (.slice Au nu cu):=(by have:=cell_of_row _ rb 1 _ _ _ hc9;rw [←HNU.out] at this;simpa using this);have r1:=aj hc9 1;have HC9:=z0 hc9;have HO9:=z0 ho;have HB9:=z0 hb;clear hc9 ho hb hg hat)
     all_goals (try unfold wM)
     all_goals (try dsimp only)
     all_goals
      obtain ⟨W8,hW8⟩:∃W8,W8=w9.setCell ⟨rb,1,none⟩ (Value.slice A9 (us0.length+1) c9):=⟨_,rfl⟩
      rw [←hW8]
      have hR8:W8.heap[rb]? =some (.cells #[Value.slice (some ad) ys.length c8,Value.slice A9 (us0.length+1) c9,Value.int .i64 0] 54 (0,0)):=by rw [hW8];exact dR HC9.out 1 _ rfl
      have hO8:Kd.R kUs 34 W8 WL.heap.size (fun _=>True) (.slice A9 (us0.length+1) c9) (us0++[(un,uq,files i)]):=by rw [hW8];have:=HO9.out;rw [List.length_append,List.length_singleton] at this;exact Kd.lV this HC9.out (by decide) 1 _
      have hK8:aG WL W8 rb none:=by
       have h7:=aG.trans hKr.out (aG.of_below HB7.out rb none) (.inl rfl)
       refine ⟨by rw [hW8];have h1:=h7.1;have h2:=HB9.out.size;simp;exact Nat.le_trans h1 h2,fun k h1 h2 h3=> ?_⟩
       rw [hW8]
       exact (Below.heap_setCell _ ⟨rb,1,none⟩ _ k h2).trans ((HB9.out.block k h1).trans (h7.2 k h1 h2 h3))
      have hB8:Below w0.heap.size w0 W8:=by
       have h0:=HBL.out.size
       have hw0:=HK9.out.2.2.1
       have h9:Below w0.heap.size W7.drew w9:=⟨HB9.out.os,HB9.out.tape,HB9.out.output,HB9.out.size,fun k hk=>HB9.out.block k (by omega)⟩
       rw [hW8]
       exact ((fE (ak hBr.out HB7.out)).trans h9).setCell hw0 _
      have HZ:=z0 (And.intro hR8 (And.intro hO8 (And.intro hK8 hB8)))
      clear hW8 hR8 hO8 hK8 hB8 r0 r1
      go_wp2
      go_roundg g1
      case measure=>omega
      case rel=>exact ⟨i+1,_,_,by (try simp),⟨by rw [HUS.out,←hus0.out];simp⟩,⟨by omega⟩,⟨HZ.out.1⟩,⟨HZ.out.2.1⟩,⟨HZ.out.2.2.1⟩,⟨HZ.out.2.2.2⟩⟩
end Go.Proofs.YtolaiebjmhieiaaGreatDoor.OScan
end
section
namespace Go.Proofs.YtolaiebjmhieiaaGreatDoor.OScan
open Go.RowKit YtolaiebjmhieiaaGreatDoorW.PrintWords YtolaiebjmhieiaaGreatDoorW.PrintLast YtolaiebjmhieiaaGreatDoorW.PrintMore
theorem Df (kw:List ByteArray)(kd:Int)(t:ByteArray)(h:1≤kd):1≤eU kw kd t:=by unfold eU;split<;>omega
theorem FD (kw sg:List ByteArray)(s:ByteArray)(at0:Int)(c:Bool)(hs:s.size≤1000000)(h0:0≤at0)(h1:at0≤s.size)(hl:sg.length≤1000000):
 at0≤(iR kw sg s at0 c).1.2.2.2∧(iR kw sg s at0 c).1.2.2.2+(iR kw sg s at0 c).1.2.2.1.size≤s.size∧((iR kw sg s at0 c).1.1≠0→1≤(iR kw sg s at0 c).1.2.2.1.size):=by
 obtain ⟨b,at1,c1,hb,hb0,hb1,hbs⟩:=qY s at0 sg c hs h0 h1 (K0 s sg) (by unfold K0;omega)
 have hb:∀v,au.f (K0 s sg) s at0 v sg c=some (b,s,at1,v,c1):=hb
 by_cases he:at1=(s.size:Int)
 · have hd:iR kw sg s at0 c=((0,b,⟨#[]⟩,at1),at1,c1):=by unfold iR;rw [hb .nilIface];simp only;rw [if_pos he]
   rw [hd]
   have h2:(⟨#[]⟩:ByteArray).size=0:=rfl
   exact ⟨hb0,by simp only [h2];omega,by simp⟩
 · obtain ⟨n,kd,ht,hn,hn1,hk1⟩:=mD s at1 sg c1 hs (by omega) (by omega) hl (K0 s sg) (by unfold K0;omega) (by unfold K0;omega) 6 0
   have hd:iR kw sg s at0 c=((eU kw kd (s.extract at1.toNat (at1+n).toNat),b,s.extract at1.toNat (at1+n).toNat,at1),at1+n,false):=by
    unfold iR;rw [hb .nilIface];simp only;rw [if_neg he,ht .nilIface]
   rw [hd]
   have h2:(s.extract at1.toNat (at1+n).toNat).size=n.toNat:=by rw [ByteArray.size_extract];omega
   exact ⟨hb0,by simp only [h2];omega,fun _=>by simp only [h2];omega⟩
theorem oV (s:ByteArray)(hs:s.size≤1000000):∀(f:Nat) (at0:Int) (c:Bool),0≤at0→at0≤s.size→∀(j:Nat) (t:Tk),(jh kwL sgL s f at0 c)[j]? =some t→at0+j≤t.2.2.2∧t.2.2.2+t.2.2.1.size≤s.size∧(t.1≠0→1≤t.2.2.1.size)
 |0,at0,c,_,_,j,t,h=>by simp [jh] at h
 |f+1,at0,c,h0,h1,j,t,h=>by
  have hl:sgL.length≤1000000:=by rw [DL];decide
  obtain ⟨g1,g2,g3⟩:=FD kwL sgL s at0 c hs h0 h1 hl
  obtain ⟨p1,p2,p3,_⟩:=oq kwL sgL s at0 c hs h0 h1 hl
  simp only [jh] at h
  split at h
  · cases j with
    |zero=>
     obtain rfl:(iR kwL sgL s at0 c).1=t:=by simpa using h
     exact ⟨by simpa using g1,g2,g3⟩
    |succ j=>simp at h
  · rename_i hk
    cases j with
    |zero=>
     obtain rfl:(iR kwL sgL s at0 c).1=t:=by simpa using h
     exact ⟨by simpa using g1,g2,g3⟩
    |succ j=>
     rw [List.getElem?_cons_succ] at h
     have:=p3 hk
     obtain ⟨q1,q2,q3⟩:=oV s hs f _ _ (by omega) p1 j t h
     exact ⟨by omega,q2,q3⟩
theorem sU (s:ByteArray)(hs:s.size≤1000000)(f:Nat)(at0:Int)(c:Bool)(h0:0≤at0)(h1:at0≤s.size):((jh kwL sgL s f at0 c).length:Int)≤s.size-at0+1:=by
 rcases Nat.eq_zero_or_pos (jh kwL sgL s f at0 c).length with h|h
 · omega
 · have hj:(jh kwL sgL s f at0 c).length-1<(jh kwL sgL s f at0 c).length:=by omega
   obtain ⟨q1,q2,_⟩:=oV s hs f at0 c h0 h1 _ _ (List.getElem?_eq_getElem hj)
   omega
theorem Fv (s:ByteArray)(f:Nat)(at0:Int)(c:Bool):1≤(jh kwL sgL s (f+1) at0 c).length:=by
 simp only [jh];split<;>simp
theorem Fq (s:ByteArray)(f:Nat)(at0:Int)(c:Bool)(h:(iR kwL sgL s at0 c).1.1≠0):2≤(jh kwL sgL s (f+2) at0 c).length:=by
 have hd:jh kwL sgL s (f+2) at0 c=(iR kwL sgL s at0 c).1::jh kwL sgL s (f+1) (iR kwL sgL s at0 c).2.1 (iR kwL sgL s at0 c).2.2:=by
  rw [show f+2=(f+1)+1 from rfl,jh,if_neg h]
 rw [hd,List.length_cons]
 have:=Fv s f (iR kwL sgL s at0 c).2.1 (iR kwL sgL s at0 c).2.2
 omega
theorem AB (s:ByteArray)(l:List UInt8)(v:Value)(sg:List ByteArray)(c:Bool)(hl:s.data.toList=40::l)(hs:s.size≤1000000)(k:Nat):
 au.f (k+5) s 0 v sg c=some (s.extract 0 0,s,0,v,c):=by
 have hsz:s.data.toList.length=s.size:=by rw [←Lib.size_eq]
 have hpos:0<s.size:=by rw [←hsz,hl];simp
 have hb:bt s 0=40:=by
  unfold bt
  rw [dif_pos (by simpa using hpos)]
  have h1:s[(0:Int).toNat]'(by simpa using hpos)=40:=by
   have h2:s.data.toList[0]? =some 40:=by rw [hl];rfl
   have h3:s.data[0]? =some 40:=by simpa using h2
   have h4:=Array.getElem?_eq_some_iff.1 h3
   obtain ⟨h5,h6⟩:=h4
   exact h6
  rw [h1];rfl
 have hR:(s.extract (0:Int).toNat s.size).data.toList=40::l:=by
  rw [←hl]
  have:s.extract (0:Int).toNat s.size=s:=ByteArray.extract_zero_size
  rw [this]
 have hc:dU.f s 0 v sg c=some (false,s,0,v,c):=by
  have hr:=mO s 0 sg c hs (by omega) (by omega) v
  simp only [dU.f,hr,Option.bind_some]
  generalize s.extract (0:Int).toNat s.size=R at hR
  obtain ⟨t1,ht1,_⟩:=mP R ⟨#[47,47]⟩
  obtain ⟨t2,ht2,_⟩:=mP R ⟨#[47,42]⟩
  cases t1 with
  |true=>
   obtain ⟨l',hl'⟩:=qO R 47 47 ht1
   rw [hR] at hl'
   exact absurd hl' (by simp)
  |false=>
   cases t2 with
   |true=>
    obtain ⟨l',hl'⟩:=qO R 47 42 ht2
    rw [hR] at hl'
    exact absurd hl' (by simp)
   |false=>simp only [ht1,ht2,Option.bind_some,Bool.false_eq_true,if_false]
 unfold au.f
 rw [au.l0,if_pos (by omega),if_pos (by omega),if_neg (by rw [hb];decide),if_neg (by rw [hb];decide),hb]
 rw [show ((40:Int)==9)=false from by decide]
 rw [au.j1,if_neg (by decide),if_neg (by decide),if_neg (by decide)]
 rw [show ((40:Int)==13)=false from by decide]
 rw [au.j2,if_neg (by decide),if_neg (by decide)]
 rw [au.j3,if_neg (by decide),if_neg (by decide)]
 rw [au.j4,if_neg (by decide),hc]
 simp only [Option.bind_some,Bool.false_eq_true,if_false]
 rw [if_pos (by omega),if_pos (by omega),if_pos (by omega)]
 rfl
theorem Dc (s:ByteArray)(l:List UInt8)(hl:s.data.toList=40::l)(hs:s.size≤1000000):(iR kwL sgL s 0 true).1.1≠0:=by
 have hsz:s.data.toList.length=s.size:=by rw [←Lib.size_eq]
 have hpos:0<s.size:=by rw [←hsz,hl];simp
 have hsl:sgL.length≤1000000:=by rw [DL];decide
 have hb:∀v,au.f (K0 s sgL) s 0 v sgL true=some (s.extract 0 0,s,0,v,true):=fun v=>by
  have:=AB s l v sgL true hl hs (5*s.size+sgL.length+95)
  exact this
 obtain ⟨n,kd,ht,hn,hn1,hk1⟩:=mD s 0 sgL true hs (by omega) (by omega) hsl (K0 s sgL) (by unfold K0;omega) (by unfold K0;omega) 6 0
 have hd:iR kwL sgL s 0 true=((eU kwL kd (s.extract (0:Int).toNat (0+n).toNat),s.extract 0 0,s.extract (0:Int).toNat (0+n).toNat,0),0+n,false):=by
  unfold iR;rw [hb .nilIface];simp only;rw [if_neg (by omega),ht .nilIface]
 rw [hd]
 have:=Df kwL kd (s.extract (0:Int).toNat (0+n).toNat) hk1
 simp only;omega
theorem DR (s:ByteArray)(hs:s.size≤190000)(he:(eG (⟨#[40]⟩++s)).2=0):2≤(eG (⟨#[40]⟩++s)).1.length∧(eG (⟨#[40]⟩++s)).1.length≤40000∧((eG (⟨#[40]⟩++s)).1.length≤s.size+2)∧
 ∀(j:Nat) (t:Tk),(eG (⟨#[40]⟩++s)).1[j]? =some t→(j:Int)≤t.2.2.2∧t.2.2.2+t.2.2.1.size≤s.size+1∧(t.1≠0→1≤t.2.2.1.size):=by
 have hsz:(⟨#[40]⟩++s:ByteArray).size=s.size+1:=by rw [ByteArray.size_append];have:(⟨#[40]⟩:ByteArray).size=1:=rfl;omega
 have hl:(⟨#[40]⟩++s:ByteArray).data.toList=40::s.data.toList:=by simp
 generalize (⟨#[40]⟩++s:ByteArray)=S at *
 have hr:eG S=(jh kwL sgL S (S.size+1) 0 true,0)∧(jh kwL sgL S (S.size+1) 0 true).length≤40000:=by
  unfold eG at he ⊢
  rw [if_neg (by omega)] at he ⊢
  by_cases h:(jh kwL sgL S (S.size+1) 0 true).length>40000
  · rw [if_pos h] at he;exact absurd he (by decide)
  · rw [if_neg h];exact ⟨rfl,by omega⟩
 rw [hr.1]
 refine ⟨?_,hr.2,?_,fun j t ht=> ?_⟩
 · rw [hsz];exact Fq S s.size 0 true (Dc S _ hl (by omega))
 · have:=sU S (by omega) (S.size+1) 0 true (by omega) (by omega)
   simp only;omega
 · obtain ⟨q1,q2,q3⟩:=oV S (by omega) (S.size+1) 0 true (by omega) (by omega) j t ht
   exact ⟨by omega,by omega,q3⟩
def Bf (s:ByteArray)(out:List Tk):Prop:=∀t:Tk,out[0]? =some t→t.2.2.1=⟨#[35]⟩∨((0:Int)≤t.2.2.2∧t.2.2.2+(t.2.2.1.size:Int)≤(s.size:Int))
theorem uw (rec_:ByteArray→Int→Option (List Tk))(s:ByteArray)(add:Int)(hs:s.size≤190000)
 (hrec:∀(a:Int) (add':Int),1≤a→a≤s.size→∃r,rec_ (s.extract a.toNat s.size) add'=some r∧(r.length:Int)≤s.size-a+1):
 ∀(zs out:List Tk) (i:Nat),out.length=i→i+zs.length≤s.size→(∀(j:Nat) (t:Tk),zs[j]? =some t→(i+j+1:Int)≤t.2.2.2∧t.2.2.2+t.2.2.1.size≤s.size+1∧(t.1≠0→1≤t.2.2.1.size))→
  ∃r,jK rec_ s add zs out=some r∧r.length≤s.size+1∧(add=0→Bf s out→Bf s r)
 |[],out,i,hi,hl,_=>⟨out,rfl,by omega,fun _ h=>h⟩
 |t::zs,out,i,hi,hl,h=>by
  obtain ⟨q1,q2,q3⟩:=h 0 t rfl
  simp only [List.length_cons] at hl
  have hw:mZ t.2.2.2=t.2.2.2:=by unfold mZ;rw [wr (a:=t.2.2.2-1) (by omega) (by omega)];exact wr (by omega) (by omega) |>.trans (by omega)
  by_cases hk:t.1=7
  · have h1:=q3 (by omega)
    obtain ⟨r,hr,hrl⟩:=hrec t.2.2.2 (wrap64 (add+mZ t.2.2.2)) (by omega) (by omega)
    refine ⟨(out++[(6,t.2.1,⟨#[35]⟩,kF add t.2.2.2)])++r,?_,?_,fun _ hf=> ?_⟩
    · simp only [jK]
      rw [if_pos hk,hw,if_pos ⟨by omega,by omega⟩]
      rw [hw] at hr
      rw [hr]
      simp only [Option.bind_some]
      rw [if_pos (by omega)]
    · rw [List.length_append,List.length_append,List.length_singleton];omega
    · intro u hu
      rw [List.append_assoc] at hu
      cases out with
      |nil=>
       simp at hu
       subst hu
       exact .inl rfl
      |cons o out=>exact hf u (by simpa using hu)
  · obtain ⟨r,hr,hrl,hf⟩:=uw rec_ s add hs hrec zs (out++[(t.1,t.2.1,t.2.2.1,kF add t.2.2.2)]) (i+1) (by simp [hi]) (by omega) (fun j u hu=>by
     have:=h (j+1) u (by simpa using hu)
     push_cast at this ⊢
     exact ⟨by omega,this.2⟩)
    refine ⟨r,?_,hrl,fun ha hf0=>hf ha ?_⟩
    · simp only [jK];rw [if_neg hk];exact hr
    · intro u hu
      cases out with
      |nil=>
       simp at hu
       subst hu
       have hp:kF add t.2.2.2=t.2.2.2-1:=by
        unfold kF;rw [ha,wr (a:=t.2.2.2-1) (by omega) (by omega)];exact wr (by omega) (by omega) |>.trans (by omega)
       exact .inr ⟨by simp only [hp];omega,by simp only [hp];omega⟩
      |cons o out=>exact hf0 u (by simpa using hu)
theorem nM:∀(k:Nat) (s:ByteArray) (add:Int),s.size≤190000→s.size+1≤k→∃r,jk k s add=some r∧r.length≤s.size+1∧(add=0→Bf s r)
 |0,s,add,_,hk=>by omega
 |k+1,s,add,hs,hk=>by
  simp only [jk]
  by_cases he:(eG (⟨#[40]⟩++s)).2=0
  · obtain ⟨h1,h2,h3,h4⟩:=DR s hs he
    rw [if_pos he,if_pos ⟨h1,by omega⟩]
    generalize (eG (⟨#[40]⟩++s)).1=ys at *
    obtain ⟨r,hr,hrl,hf⟩:=uw (jk k) s add hs (fun a add' ha1 ha2=>by
     have hsz:(s.extract a.toNat s.size).size=s.size-a.toNat:=by rw [ByteArray.size_extract];omega
     obtain ⟨r,hr,hrl,_⟩:=nM k (s.extract a.toNat s.size) add' (by omega) (by omega)
     exact ⟨r,hr,by omega⟩) ((ys.take (ys.length-1)).drop 1) [] 0 rfl (by rw [List.length_drop,List.length_take];omega) (fun j t ht=>by
     rw [List.getElem?_drop,List.getElem?_take] at ht
     split at ht
     · have:=h4 _ t ht
       push_cast at this
       exact ⟨by omega,this.2⟩
     · cases ht)
    exact ⟨r,hr,hrl,fun ha=>hf ha (fun t ht=>by simp at ht)⟩
  · rw [if_neg he]
    exact ⟨[],rfl,by simp,fun _ t ht=>by simp at ht⟩
theorem zD (xs:List ByteArray)(a:ByteArray)(hl:xs.length≤1000000):∀(d k:Nat) (i:Int),0≤i→i≤xs.length→(xs.length:Int)-i≤d→d<k→∃r,OCond.bV.l0 k xs a (xs.length:Int) i=some r∧ -1≤r∧r<xs.length∧(0≤r→r.toNat<xs.length∧a.toList=(jv ByteArray.empty xs r).toList)∧(r<0→∀j:Int,i≤j→j<xs.length→a.toList≠(jv ByteArray.empty xs j).toList)
 |d,0,i,_,_,_,hk=>by omega
 |d,k+1,i,h0,h1,hd,hk=>by
  rw [OCond.bV.l0]
  by_cases h:i<(xs.length:Int)
  · rw [if_pos h,if_pos h0,if_pos h]
    by_cases he:a.toList=(jv ByteArray.empty xs i).toList
    · rw [if_pos he]
      exact ⟨i,rfl,by omega,h,fun _=>⟨by omega,he⟩,fun h=>by omega⟩
    · rw [if_neg he,wr (by omega) (by omega)]
      cases d with
      |zero=>omega
      |succ d=>
       obtain ⟨r,hr,q1,q2,q3,q4⟩:=zD xs a hl d k (i+1) (by omega) (by omega) (by omega) (by omega)
       refine ⟨r,hr,q1,q2,q3,fun hr0 j hj hj2=> ?_⟩
       by_cases hji:j=i
       · rw [hji];exact he
       · exact q4 hr0 j (by omega) hj2
  · rw [if_neg h]
    exact ⟨-1,rfl,by omega,by omega,fun h=>by omega,fun _ j hj hj2=>by omega⟩
theorem mg (xs:List ByteArray)(a:ByteArray)(k:Nat)(hl:xs.length≤1000000)(hk:xs.length<k):∃b,OCond.dA.f k xs a=some b∧(b=true↔a∈xs):=by
 obtain ⟨r,hr,q1,q2,q3,q4⟩:=zD xs a hl xs.length k 0 (by omega) (by omega) (by omega) hk
 refine ⟨decide (r≥0),?_,?_⟩
 · unfold OCond.dA.f OCond.bV.f
   rw [hr];rfl
 · have hrd:∀j:Int,jv ByteArray.empty xs j=xs.getD j.toNat ByteArray.empty:=fun j=>rfl
   have hinj:∀x y:ByteArray,x.toList=y.toList→x=y:=fun x y h=>by
    rw [ByteArray.toList_eq,ByteArray.toList_eq] at h
    exact Go.WideShapes.bytes_inj h
   rw [decide_eq_true_iff]
   constructor
   · intro h
     obtain ⟨h1,h2⟩:=q3 h
     have:=hinj _ _ h2
     rw [this,hrd,List.getD_eq_getElem?_getD,List.getElem?_eq_getElem h1]
     exact List.getElem_mem h1
   · intro h
     obtain ⟨j,hj,he⟩:=List.getElem_of_mem h
     rcases Int.lt_or_le r 0 with hr0|hr0
     · refine absurd ?_ (q4 hr0 j (by omega) (by omega))
       rw [hrd,List.getD_eq_getElem?_getD,show ((j:Int)).toNat=j from rfl,List.getElem?_eq_getElem hj,←he];rfl
     · exact hr0
theorem GK (r:List Tk)(h:1≤r.length):∃t:Tk,r[0]? =some t∧OCond.iF (r.map OCond.iY) 0=OCond.iY t:=by
 cases r with
 |nil=>simp at h
 |cons t r=>exact ⟨t,rfl,rfl⟩
theorem Gs (t:Tk)(h7:t.1=7)(hs:t.2.2.1.size≤190000):∃(r:List Tk) (er:Int),OCond.iy.f t.1 t.2.1 t.2.2.1 t.2.2.2=some (r.map OCond.iY,er)∧r.length≤t.2.2.1.size+1∧∀u:Tk,r[0]? =some u→u.2.2.1=⟨#[35]⟩∨((0:Int)≤u.2.2.2∧u.2.2.2+(u.2.2.1.size:Int)+1≤(t.2.2.1.size:Int)):=by
 unfold OCond.iy.f
 rw [if_pos h7]
 have hp:=D6 t.2.2.1 35
 rw [hp,Option.bind_some]
 by_cases hh:nH t.2.2.1 35=true
 · have h1:=nX hh
   rw [if_pos hh,if_pos (by omega)]
   have hsz:(t.2.2.1.extract 1 t.2.2.1.size).size=t.2.2.1.size-1:=by rw [ByteArray.size_extract];omega
   obtain ⟨r,hr,hrl,hf⟩:=nM ((t.2.2.1.extract 1 t.2.2.1.size).size+2) (t.2.2.1.extract 1 t.2.2.1.size) 0 (by omega) (by omega)
   refine ⟨r,0,?_,by omega,fun u hu=> ?_⟩
   · unfold OCond.kL.f
     rw [if_pos (by omega),hr];rfl
   · rcases hf rfl u hu with h|⟨h2,h3⟩
     · exact .inl h
     · exact .inr ⟨h2,by omega⟩
 · rw [if_neg hh]
   exact ⟨[],3,rfl,by simp,fun u hu=>by simp at hu⟩
theorem o9:(⟨#[111,116,104,101,114]⟩:ByteArray).toList≠oG:=by rw [ByteArray.toList_eq];decide
theorem Dl:(⟨#[]⟩:ByteArray).toList≠oG:=by rw [ByteArray.toList_eq];decide
theorem xP (t:Tk)(hs:t.2.2.1.size≤190000):∃kd,OCond.jd.f 20 t.1 t.2.1 t.2.2.1 t.2.2.2=some kd∧(kd.toList=oG→∃(ws:List OCond.S95) (er a:Int),OCond.iy.f t.1 t.2.1 t.2.2.1 t.2.2.2=some (ws,er)∧1≤ws.length∧(OCond.iF ws 0).f3=a∧0≤a∧a+8≤t.2.2.1.size):=by
 by_cases h7:t.1=7
 · obtain ⟨r,er,hW,hrl,hf⟩:=Gs t h7 hs
   unfold OCond.jd.f
   rw [if_pos h7,hW,Option.bind_some]
   simp only
   by_cases hl:1≤r.length
   · have hl2:((r.map OCond.iY).length:Int)>0:=by rw [List.length_map];omega
     rw [if_pos hl2,if_pos hl2]
     obtain ⟨u,hu,hrd⟩:=GK r hl
     rw [hrd]
     obtain ⟨b,hb,hbb⟩:=mg ([(⟨#[105,102]⟩:ByteArray),(⟨#[105,102,100,101,102]⟩:ByteArray),(⟨#[105,102,110,100,101,102]⟩:ByteArray),(⟨#[101,108,105,102]⟩:ByteArray),(⟨#[101,108,115,101]⟩:ByteArray),(⟨#[101,110,100,105,102]⟩:ByteArray),(⟨#[100,101,102,105,110,101]⟩:ByteArray),(⟨#[117,110,100,101,102]⟩:ByteArray),(⟨#[105,110,99,108,117,100,101]⟩:ByteArray)]:List ByteArray) (OCond.iY u).f2 20 (by decide) (by decide)
     rw [hb,Option.bind_some]
     by_cases hbt:b=true
     · rw [if_pos hbt]
       refine ⟨_,rfl,fun hi=>⟨_,er,(OCond.iY u).f3,rfl,by rw [List.length_map];exact hl,by rw [hrd],?_⟩⟩
       have hi':u.2.2.1.toList=oG:=hi
       have hsz:u.2.2.1.size=7:=by rw [←iM,←ByteArray.toList_eq,hi'];rfl
       rcases hf u hu with h|⟨h1,h2⟩
       · rw [h] at hsz;exact absurd hsz (by decide)
       · exact ⟨h1,by show u.2.2.2+8≤_;omega⟩
     · rw [if_neg hbt]
       exact ⟨_,rfl,fun h=>absurd h o9⟩
   · have hl2:¬((r.map OCond.iY).length:Int)>0:=by rw [List.length_map];omega
     rw [if_neg hl2]
     exact ⟨_,rfl,fun h=>absurd h o9⟩
 · unfold OCond.jd.f
   rw [if_neg h7]
   exact ⟨_,rfl,fun h=>absurd h Dl⟩
theorem wV (s:ByteArray)(c:Int)(hs:s.size≤4611686018427387904):∀(d k:Nat) (x:Int), -1≤x→x<s.size→x+1≤d→d<k→∃t,OJoin.bytealg_LastIndexByteString.l0 k s c x=some t∧ -1≤t∧t<(s.size:Int)∨(s.size=0∧OJoin.bytealg_LastIndexByteString.l0 k s c x=some (-1))
 |d,0,x,_,_,_,hk=>by omega
 |d,k+1,x,h0,h1,hd,hk=>by
  rw [OJoin.bytealg_LastIndexByteString.l0]
  by_cases h:x≥0
  · rw [if_pos h,if_pos h,if_pos h1]
    by_cases hb:bt s x=c
    · rw [if_pos hb];exact ⟨x,.inl ⟨rfl,by omega,h1⟩⟩
    · rw [if_neg hb,wr (by omega) (by omega)]
      cases d with
      |zero=>omega
      |succ d=>exact wV s c hs d k (x-1) (by omega) (by omega) (by omega) (by omega)
  · rw [if_neg h]
    exact ⟨-1,.inl ⟨rfl,by omega,by omega⟩⟩
theorem ng (s:ByteArray)(c:Int)(hs:s.size≤4611686018427387904)(k:Nat)(hk:s.size<k):∃t,OJoin.strings_LastIndexByte.f k s c=some t∧ -1≤t∧t<max 1 (s.size:Int)∧(s.size=0→t= -1):=by
 unfold OJoin.strings_LastIndexByte.f OJoin.bytealg_LastIndexByteString.f
 rw [wr (by omega) (by omega)]
 by_cases h0:s.size=0
 · cases k with
   |zero=>omega
   |succ k=>
    rw [OJoin.bytealg_LastIndexByteString.l0,if_neg (by omega)]
    exact ⟨-1,rfl,by omega,by omega,fun _=>rfl⟩
 · obtain ⟨t,h|h⟩:=wV s c hs s.size k ((s.size:Int)-1) (by omega) (by omega) (by omega) hk
   · rw [h.1];exact ⟨t,rfl,h.2.1,by omega,fun h=>absurd h h0⟩
   · exact absurd h.1 h0
theorem qF (a p:ByteArray):∃r b,OJoin.strings_CutPrefix.f a p=some (r,b)∧(b=true→r.size+p.size=a.size)∧(b=false→r=a):=by
 unfold OJoin.strings_CutPrefix.f OJoin.stringslite_CutPrefix.f OJoin.stringslite_HasPrefix.f
 by_cases h:(a.size:Int)≥(p.size:Int)
 · rw [if_pos h,if_pos (by omega),if_pos h]
   simp only [Option.bind_some]
   by_cases hb:((a.extract 0 ((p.size:Int):Int).toNat).toList==p.toList)=true
   · rw [if_pos hb,if_pos (by omega),if_pos h]
     exact ⟨_,true,rfl,fun _=>by rw [ByteArray.size_extract];omega,fun h=>absurd h (by decide)⟩
   · rw [if_neg hb]
     exact ⟨_,false,rfl,(fun h=>absurd h (by decide)),fun _=>rfl⟩
 · rw [if_neg h]
   exact ⟨_,false,rfl,(fun h=>absurd h (by decide)),fun _=>rfl⟩
theorem qh:∀(e k:Nat) (d n:ByteArray),n.size≤e→n.size≤1000000→d.size≤140737488355328→e+d.size+2<k→∃r,OJoin.fD.l0 k d n=some r
 |e,0,d,n,_,_,_,hk=>by omega
 |e,k+1,d,n,he,hn,hd,hk=>by
  rw [OJoin.fD.l0]
  obtain ⟨r1,b1,h1,p1,_⟩:=qF n ⟨#[46,47]⟩
  have z1:(⟨#[46,47]⟩:ByteArray).size=2:=rfl
  rw [h1,Option.bind_some]
  simp only
  by_cases hb1:b1=true
  · rw [if_pos hb1]
    have:=p1 hb1
    cases e with
    |zero=>omega
    |succ e=>exact qh e k d r1 (by omega) (by omega) hd (by omega)
  · rw [if_neg hb1]
    obtain ⟨r2,b2,h2,p2,_⟩:=qF n ⟨#[46,46,47]⟩
    have z2:(⟨#[46,46,47]⟩:ByteArray).size=3:=rfl
    rw [h2,Option.bind_some]
    simp only
    by_cases hb2:b2=true
    · rw [if_pos hb2]
      have:=p2 hb2
      by_cases hx:d.toList=([]:List UInt8)
      · rw [if_pos hx];exact ⟨_,rfl⟩
      · rw [if_neg hx]
        have hds:d.size≠0:=fun h=>hx (by rw [ByteArray.toList_eq];exact List.eq_nil_of_length_eq_zero (by rw [iM];exact h))
        obtain ⟨t,ht,t1,t2,_⟩:=ng d 47 (by omega) k (by omega)
        rw [ht,Option.bind_some]
        have hm0:(0:Int)≤mx 0 t:=by unfold mx;split<;>omega
        have hm1:mx 0 t≤(d.size:Int):=by unfold mx;split<;>omega
        rw [if_pos hm0,if_pos hm1]
        cases e with
        |zero=>omega
        |succ e=>exact qh e k _ r2 (by omega) (by omega) (by rw [ByteArray.size_extract];omega) (by rw [ByteArray.size_extract];omega)
    · rw [if_neg hb2]
      by_cases hx:d.toList=([]:List UInt8)
      · rw [if_pos hx];exact ⟨_,rfl⟩
      · rw [if_neg hx,if_pos (by omega),if_pos (by rw [ByteArray.size_append];have:(⟨#[47]⟩:ByteArray).size=1:=rfl;omega)]
        exact ⟨_,rfl⟩
def iO (d n:ByteArray):ByteArray × Bool:=(OJoin.fD.f (d.size+n.size+5) d n).getD (⟨#[]⟩,false)
theorem IE (d n:ByteArray)(hn:n.size≤1000000)(hd:d.size≤140737488355328):Jh d n (iO d n):=by
 obtain ⟨r,hr⟩:=qh n.size (d.size+n.size+5) d n (Nat.le_refl _) hn hd (by omega)
 refine ⟨d.size+n.size+5,?_⟩
 unfold iO OJoin.fD.f
 rw [hr];rfl
def ldR (s:ByteArray):Int:=(OJoin.strings_LastIndexByte.f (s.size+2) s 47).getD (-1)
theorem Iu (s:ByteArray)(hs:s.size≤1000000):OJoin.strings_LastIndexByte.f (s.size+2) s 47=some (ldR s)∧ -1≤ldR s∧ldR s<s.size:=by
 obtain ⟨t,ht,t1,t2,t3⟩:=ng s 47 (by omega) (s.size+2) (by omega)
 unfold ldR
 rw [ht]
 refine ⟨rfl,t1,?_⟩
 show t<s.size
 rcases Nat.eq_zero_or_pos s.size with h|h
 · have:=t3 h;omega
 · omega
def uP (ps:List ByteArray)(from_:ByteArray)(q:Bool):List ByteArray:=if q=true then from_.extract 0 (max 0 (ldR from_)).toNat::ps else ps
def EP (m:AL)(ps:List ByteArray)(from_ n:ByteArray)(q:Bool):ByteArray:=kX m ((uP ps from_ q).map fun d=>iO d n)
theorem zJ (m:AL):∀js,kX m js=⟨#[]⟩∨(eF m (kX m js)).isSome=true
 |[]=> .inl rfl
 |j::js=>by
  unfold kX
  split
  · rename_i h;exact .inr h.2
  · exact zJ m js
end Go.Proofs.YtolaiebjmhieiaaGreatDoor.OScan
end
section
namespace Go.Proofs.YtolaiebjmhieiaaGreatDoor.OScan
def Two (gs:List Gr)(st:List Ope):Prop:=∀(j:Nat) (g:Gr),gs[j]? =some g→2≤g.1.length∨(1≤g.1.length∧∃x∈st,x.1=j)
theorem Two.line {gs:List Gr}{x x':Ope}{st:List Ope}{a:Int}{y:Int × Int × Int}(h:Two gs (x::st))(hx:x'.1=x.1∨True):∀(j:Nat) (g:Gr),(gs.set x.1 ((fV gs x.1).1++[a],y))[j]? =some g→2≤g.1.length∨(1≤g.1.length∧∃z∈st,z.1=j):=by
 intro j g hj
 by_cases hjx:x.1=j
 · subst hjx
   rw [List.getElem?_set_self'] at hj
   cases hg:gs[x.1]? with
   |none=>rw [hg] at hj;simp at hj
   |some g0=>
    rw [hg] at hj
    simp at hj
    subst hj
    left
    have e:fV gs x.1=g0:=by simp [fV,List.getD_eq_getElem?_getD,hg]
    rw [e]
    have:=h x.1 g0 hg
    simp only [List.length_append,List.length_singleton]
    omega
 · rw [List.getElem?_set_ne hjx] at hj
   rcases h j g hj with h1|⟨h1,z,hz,hzj⟩
   · exact .inl h1
   · rcases List.mem_cons.1 hz with rfl|hz
     · exact absurd hzj hjx
     · exact .inr ⟨h1,z,hz,hzj⟩
theorem Two.step {k:ByteArray}{a:Int}{gs:List Gr}{st:List Ope}{r:List Gr × List Ope}(h:Two gs st)(hs:ji k a gs st=some r):Two r.1 r.2:=by
 unfold ji at hs
 split at hs
 · obtain rfl:=Option.some.inj hs
   intro j g hj
   show 2≤g.1.length∨(1≤g.1.length∧∃x∈(gs.length,0,false)::st,x.1=j)
   rcases Nat.lt_or_ge j gs.length with hl|hl
   · have hj':gs[j]? =some g:=by
      have:(gs++_)[j]? =some g:=hj
      rwa [List.getElem?_append_left hl] at this
     rcases h j g hj' with h1|⟨h1,z,hz,hzj⟩
     · exact .inl h1
     · exact .inr ⟨h1,z,List.mem_cons_of_mem _ hz,hzj⟩
   · have hj':(gs++_)[j]? =some g:=hj
     rw [List.getElem?_append_right hl] at hj'
     obtain ⟨h0,he⟩:=List.getElem?_eq_some_iff.1 hj'
     simp at h0
     have hjl:j=gs.length:=by omega
     subst hjl
     simp at he
     subst he
     exact .inr ⟨by simp,_,List.mem_cons_self,rfl⟩
 · split at hs
   · obtain rfl:=Option.some.inj hs
     exact h
   · split at hs
     · cases hs
     · rename_i x st'
       split at hs
       · cases hs
       · split at hs
         · obtain rfl:=Option.some.inj hs
           intro j g hj
           rcases Two.line (x':=x) h (.inr trivial) j g hj with h1|⟨h1,z,hz,hzj⟩
           · exact .inl h1
           · exact .inr ⟨h1,z,List.mem_cons_of_mem _ hz,hzj⟩
         · obtain rfl:=Option.some.inj hs
           exact fun j g hj=>Two.line (x':=x) h (.inr trivial) j g hj
theorem Gy:∀(ks:List ByteArray) (i:Nat) (gs:List Gr) (st:List Ope) (r:List Gr × List Ope),Two gs st→lu ks i gs st= .inl r→Two r.1 r.2
 |[],i,gs,st,r,h,hg=>by
  obtain rfl:=Sum.inl.inj hg
  exact h
 |k::ks,i,gs,st,r,h,hg=>by
  rw [lu] at hg
  cases hs:ji k i gs st with
  |none=>rw [hs] at hg;cases hg
  |some r'=>
   rw [hs] at hg
   exact Gy ks (i+1) r'.1 r'.2 r (h.step hs) hg
theorem xk (ks:List ByteArray)(he:(bZ ks).2.1=0):∀g∈(bZ ks).1,2≤g.1.length:=by
 intro g hg
 unfold bZ at hg he
 split at hg
 · cases hg
 · rename_i hn
   rw [if_neg hn] at he
   cases hgo:lu ks 0 [] [] with
   |inr i=>rw [hgo] at he;simp at he
   |inl r=>
    obtain ⟨gs,st⟩:=r
    rw [hgo] at hg he
    cases st with
    |cons x st=>simp at he
    |nil=>
     simp only at hg
     obtain ⟨j,hj⟩:=List.mem_iff_getElem?.1 hg
     have:=Gy ks 0 [] [] (gs,[]) (fun j g hj=>by simp at hj) hgo j g hj
     rcases this with h1|⟨_,z,hz,_⟩
     · exact h1
     · cases hz
theorem IG:∀(ks:List ByteArray) (i:Nat) (gs:List Gr) (st:List Ope) (r:List Gr × List Ope),GInv i gs→lu ks i gs st= .inl r→GInv (i+ks.length) r.1
 |[],i,gs,st,r,h,hg=>by
  obtain rfl:=Sum.inl.inj hg
  exact h
 |k::ks,i,gs,st,r,h,hg=>by
  rw [lu] at hg
  cases hs:ji k i gs st with
  |none=>rw [hs] at hg;cases hg
  |some r'=>
   rw [hs] at hg
   have:=IG ks (i+1) r'.1 r'.2 r (h.step hs) hg
   rw [List.length_cons,show i+(ks.length+1)=i+1+ks.length by omega]
   exact this
theorem qV (ks:List ByteArray):(bZ ks).1.length≤ks.length∧∀g∈(bZ ks).1,g.1.length≤ks.length:=by
 unfold bZ
 split
 · exact ⟨Nat.zero_le _,fun g hg=>by cases hg⟩
 · cases hgo:lu ks 0 [] [] with
   |inr i=>exact ⟨Nat.zero_le _,fun g hg=>by cases hg⟩
   |inl r=>
    obtain ⟨gs,st⟩:=r
    cases st with
    |cons x st=>exact ⟨Nat.zero_le _,fun g hg=>by cases hg⟩
    |nil=>
     have:=IG ks 0 [] [] (gs,[]) ⟨Nat.le_refl _,fun g hg=>by cases hg⟩ hgo
     rw [Nat.zero_add] at this
     exact ⟨this.1,fun g hg=>(this.2 g hg).1⟩
end Go.Proofs.YtolaiebjmhieiaaGreatDoor.OScan
end
section
namespace Go.Proofs.YtolaiebjmhieiaaGreatDoor.OScan
open Go.RowKit YtolaiebjmhieiaaGreatDoorW.PrintWords YtolaiebjmhieiaaGreatDoorW.PrintLast YtolaiebjmhieiaaGreatDoorW.PrintMore
def jV (t:Tk):ByteArray:=(OCond.jd.f 20 t.1 t.2.1 t.2.2.1 t.2.2.2).getD ⟨#[]⟩
def oQ (t:Tk):Option (ByteArray × Bool):=
 if (jV t).toList=oG then
  match OCond.iy.f t.1 t.2.1 t.2.2.1 t.2.2.2 with
  |some (ws,_)=>uX (trimB (t.2.2.1.extract ((OCond.iF ws 0).f3+8).toNat t.2.2.1.size))
  |none=>none
 else none
def ksR (s:ByteArray):List ByteArray:=(eG s).1.map jV
def grR (s:ByteArray):List Gr:=(bZ (ksR s)).1
def erR (s:ByteArray):Int:=if (eG s).2≠0 then (eG s).2 else (bZ (ksR s)).2.1
def jf (s:ByteArray)(i:Nat):Option (ByteArray × Bool):=((eG s).1[i]?).bind oQ
def nI (m:AL)(ps:List ByteArray)(name s:ByteArray)(i:Nat):ByteArray:=match jf s i with
 |some (n,q)=>EP m ps name n q
 |none=>⟨#[]⟩
def usT (m:AL)(ps:List ByteArray)(name s:ByteArray):List Us:=if erR s≠0 then [] else usF (jf s) (nI m ps name s) (grR s) (eG s).1.length
def kG (m:AL)(n:ByteArray):ByteArray:=match eF m n with
 |some (.string s)=>s
 |_=>⟨#[]⟩
def usR (m:AL)(ps:List ByteArray)(n:ByteArray):List Us:=usT m ps n (kG m n)
def erN (m:AL)(n:ByteArray):Int:=erR (kG m n)
theorem Iz (t:Tk)(hs:t.2.2.1.size≤190000):rD t (jV t):=by
 obtain ⟨kd,hk,_⟩:=xP t hs
 refine ⟨20,?_⟩
 unfold jV
 rw [hk];rfl
theorem inc_any (t:Tk)(w:World)(hG:jg w)(hs:t.2.2.1.size≤190000):
 Calls Tryz.prog 42 #[.agg #[.int .i64 t.1,.string t.2.1,.string t.2.2.1,.int .i64 t.2.2.2]] w fun e w'=>e= .returned (.tuple #[xU (oQ t),.bool (oQ t).isSome])∧Below w.heap.size w w':=by
 obtain ⟨kd,hk,hi⟩:=xP t hs
 have hkd:jV t=kd:=by unfold jV;rw [hk];rfl
 by_cases he:kd.toList=oG
 · obtain ⟨ws,er,a,hW,hl,ha,h0,h1⟩:=hi he
   have hr:oQ t=uX (trimB (t.2.2.1.extract (a+8).toNat t.2.2.1.size)):=by
    unfold oQ
    rw [hkd,if_pos he,hW]
    simp only [ha]
   rw [hr]
   exact JZ t kd ws er a w hG ⟨20,hk⟩ he hW hl ha h0 h1 (by omega) _ rfl
 · have hr:oQ t=none:=by unfold oQ;rw [hkd,if_neg he]
   rw [hr]
   exact J3 t kd w hG ⟨20,hk⟩ he
theorem mW (s:ByteArray)(a b:Nat):(s.extract a b).size≤s.size:=by rw [ByteArray.size_extract];omega
theorem Gh {rest n:ByteArray}{q:Bool}(h:uX rest=some (n,q)):n.size≤rest.size:=by
 unfold uX at h
 split at h
 · unfold between at h
   simp only at h
   split at h
   · cases h
   · injection h with h
     injection h with h1 h2
     rw [←h1];exact mW _ _ _
 · split at h
   · unfold between at h
     simp only at h
     split at h
     · cases h
     · injection h with h
       injection h with h1 h2
       rw [←h1];exact mW _ _ _
   · cases h
theorem zF {t:Tk}{n:ByteArray}{q:Bool}(h:oQ t=some (n,q)):n.size≤t.2.2.1.size:=by
 unfold oQ at h
 split at h
 · split at h
   · have:=Gh h
     exact Nat.le_trans this (Nat.le_trans (Bz _) (mW _ _ _))
   · cases h
 · cases h
structure La (w0:World)(m:AL)(ps:List ByteArray)(Ap:Option Addr):Prop where
 glob:jg w0
 places:Kd.C Kd.string w0 Ap ps.length ps
 hA:Ap=none∨∃b o,Ap=some ⟨b,o,none⟩
 npl:ps.length≤5
 files:∀n u,eF m n=some u→∃s,u= .string s∧s.size≤4000∧n.size≤4000
 psz:∀p∈ps,p.size≤140737488355328
theorem pU (s:ByteArray)(hs:s.size≤4000):(eG s).1.length≤40000∧∀(i:Nat) (t:Tk),(eG s).1[i]? =some t→t.2.2.1.size≤4000:=by
 unfold eG
 rw [if_neg (by omega)]
 split
 · exact ⟨by simp,fun i t h=>by simp at h⟩
 · refine ⟨by simp only;omega,fun i t h=> ?_⟩
   obtain ⟨q1,q2,_⟩:=oV s (by omega) (s.size+1) 0 true (by omega) (by omega) i t h
   omega
theorem BR (m:AL)(ps:List ByteArray)(Ap:Option Addr)(cp PB fm cm:Nat)(w0 w:World)(name:ByteArray)(E:La w0 m ps Ap)(hn:(eF m name).isSome=true)
 (P:PS (usR m ps) (erN m) w0 m (.slice Ap ps.length cp) PB fm cm w):
 Calls Tryz.prog 21 #[.pointer (some ⟨PB,0,none⟩),.string name] w fun e w'=>∃rb,e= .returned (.pointer (some ⟨rb,0,none⟩))∧Dx w0.heap.size w' rb (usR m ps name) (erN m name)∧PS (usR m ps) (erN m) w0 m (.slice Ap ps.length cp) PB fm cm w'∧w.heap.size≤w'.heap.size∧∀k,k<w.heap.size→k≠cm→w'.heap[k]? =w.heap[k]? :=by
 obtain ⟨c,HP,hC⟩:=P.prj
 obtain ⟨u0,hu0⟩:=Option.isSome_iff_exists.1 hn
 obtain ⟨text,rfl,hsz,hnsz⟩:=E.files name u0 hu0
 have htx:kG m name=text:=by unfold kG;rw [hu0]
 have ht:(eF m name).getD (.string ⟨#[]⟩)= .string text:=by rw [hu0];rfl
 have hmap0:∃es cl,w.heap[cm]? =some (.map es cl):=by obtain ⟨es,cl,h,_⟩:=HP.hc;exact ⟨es,cl,h⟩
 have hmapf:∃es cl,w.heap[fm]? =some (.map es cl):=by obtain ⟨es,cl,h,_⟩:=HP.hm;exact ⟨es,cl,h⟩
 cases hc:eF c name with
 |some u=>
  obtain ⟨rb,rfl,hR⟩:=hC name u hc
  refine (Ht m c name _ _ w0.heap.size PB fm cm w HP hc).mono fun e w' ⟨he,hb,ho⟩=>⟨rb,he,?_,?_,by rw [ho.size];exact Nat.le_refl _,fun k _ _=> ?_⟩
  · exact hR.kept fun k cs hk=>by
     by_cases hkp:k=PB
     · rw [hkp];exact hb
     · exact ho.block k hkp
  · refine P.kept ?_ (fun k _=> ?_)
    · have hbs:=HP.bP
      exact ho.below P.below hbs
    · by_cases hkp:k=PB
      · rw [hkp];exact hb
      · exact ho.block k hkp
  · by_cases hkp:k=PB
    · rw [hkp];exact hb
    · exact ho.block k hkp
 |none=>
  have fin:∀(rb:Nat) (w':World),EZ w0 w w' PB cm c name rb (usR m ps name) (erN m name)→Dx w0.heap.size w' rb (usR m ps name) (erN m name)∧PS (usR m ps) (erN m) w0 m (.slice Ap ps.length cp) PB fm cm w'∧w.heap.size≤w'.heap.size∧∀k,k<w.heap.size→k≠cm→w'.heap[k]? =w.heap[k]? :=fun rb w' Q=>by
   have hk:∀k,k<w.heap.size→k≠cm→w'.heap[k]? =w.heap[k]? :=fun k h1 h2=>by
    by_cases hkp:k=PB
    · rw [hkp];exact Q.pb
    · exact Q.keep k h1 hkp h2
   have hcell:∀k (cs:Array Value) (t:Nat),w.heap[k]? =some (Obj.cells cs t (0,0))→w'.heap[k]? =w.heap[k]? :=fun k cs t h=>hk k (aT h) (by
    rintro rfl
    obtain ⟨es,cl,h2⟩:=hmap0
    rw [h] at h2
    cases h2)
   have hrs:rb<w'.heap.size:=by obtain ⟨_,vl,vu,h,_⟩:=Q.rd;exact aT h
   refine ⟨Q.rd,⟨Q.below,_,⟨(hcell PB _ _ HP.hP).trans HP.hP,HP.hm.same (hk fm HP.hm.lt HP.ne),Q.map,HP.bP,HP.bm,HP.bc,HP.ne⟩,fun n u hu=> ?_⟩,by have:=Q.new;omega,hk⟩
   rw [jH] at hu
   split at hu
   · rename_i hnn
     have e:=(MapKept.bytes_beq _ _).1 hnn
     obtain rfl:=Option.some.inj hu
     rw [e]
     exact ⟨rb,rfl,Q.rd⟩
   · obtain ⟨rb',e,hR⟩:=hC n u hu
     exact ⟨rb',e,hR.kept fun k cs h=>by
      rcases h with h|h
      · exact hcell k cs _ h
      · exact hcell k cs _ h⟩
  obtain ⟨hyl,htk⟩:=pU text hsz
  by_cases he1:(eG text).2=0
  · have hkl:(ksR text).length=(eG text).1.length:=by unfold ksR;rw [List.length_map]
    have hK:∀(i:Nat) (t:Tk),(eG text).1[i]? =some t→∃r,(ksR text)[i]? =some r∧rD t r:=fun i t h=>⟨jV t,by unfold ksR;rw [List.getElem?_map,h];rfl,Iz t (by have:=htk i t h;omega)⟩
    by_cases he2:(bZ (ksR text)).2.1=0
    · have hgi:=qV (ksR text)
      have her:erR text=0:=by unfold erR;rw [if_neg (by simpa using he1)];exact he2
      have hus:usR m ps name=usF (jf text) (nI m ps name text) (bZ (ksR text)).1 (eG text).1.length:=by
       unfold usR usT
       rw [htx,if_neg (by simpa using her)];rfl
      have hern:erN m name=0:=by unfold erN;rw [htx];exact her
      rw [hus,hern] at fin
      rw [hus,hern]
      refine (JB m c name text Ap ps.length cp PB fm cm w0 w HP P.below E.glob hc ht (by omega) he1 (ksR text) (by omega) hkl hK he2 (fun g hg=>⟨xk _ he2 g hg,by have:=hgi.2 g hg;omega⟩) (by omega) (jf text) (nI m ps name text) (fun i t h W hW=> ?_) (fun i n q hi _ W hb hF=> ?_)).mono fun e w' ⟨rb,he,Q⟩=>⟨rb,he,fin rb w' Q⟩
      · have:jf text i=oQ t:=by unfold jf;rw [h];rfl
        rw [this]
        exact inc_any t W hW (by have:=htk i t h;omega)
      · have hfi:nI m ps name text i=EP m ps name n q:=by unfold nI;rw [hi]
        rw [hfi]
        have hns:n.size≤4000:=by
         unfold jf at hi
         obtain ⟨t,h1,h2⟩:=Option.bind_eq_some_iff.1 hi
         have:=zF h2
         have:=htk i t h1
         omega
        obtain ⟨l1,l2,l3⟩:=Iu name (by omega)
        exact IQ m 1 ps name n ⟨#[]⟩ q (ldR name) (name.size+2) ((uP ps name q).map fun d=>iO d n) PB fm cm Ap cp W hF (Kd.fC E.places (by exact hb)) E.hA (by have:=E.npl;omega) l1 l2 l3 (by omega) (uP ps name q) rfl (by rw [List.length_map]) (fun j d hd=>⟨iO d n,by rw [List.getElem?_map,hd];rfl,IE d n (by omega) (by
         have hm:=List.mem_of_getElem? hd
         unfold uP at hm
         split at hm
         · rcases List.mem_cons.1 hm with h|h
           · rw [h];have:=mW name 0 (max 0 (ldR name)).toNat;omega
           · exact E.psz d h
         · exact E.psz d hm)⟩)
    · have her:erR text=(bZ (ksR text)).2.1:=by unfold erR;rw [if_neg (by simpa using he1)]
      have hus:usR m ps name=[]:=by unfold usR usT;rw [htx,if_pos (by rw [her];exact he2)]
      have hern:erN m name=(bZ (ksR text)).2.1:=by unfold erN;rw [htx];exact her
      rw [hus,hern] at fin
      rw [hus,hern]
      exact (JC m c name text _ PB fm cm w0 w HP P.below E.glob hc ht (by omega) he1 (ksR text) (by omega) hkl hK he2).mono fun e w' ⟨rb,he,Q⟩=>⟨rb,he,fin rb w' Q⟩
  · have her:erR text=(eG text).2:=by unfold erR;rw [if_pos he1]
    have hus:usR m ps name=[]:=by unfold usR usT;rw [htx,if_pos (by rw [her];exact he1)]
    have hern:erN m name=(eG text).2:=by unfold erN;rw [htx];exact her
    rw [hus,hern] at fin
    rw [hus,hern]
    exact (JD m c name text _ PB fm cm w0 w HP P.below E.glob hc ht (by omega) he1).mono fun e w' ⟨rb,he,Q⟩=>⟨rb,he,fin rb w' Q⟩
structure iG (W:World)(files:List Fl)(ps:List ByteArray)(A Ap:Option Addr)(c cp:Nat):Prop where
 glob:jg W
 fc:Kd.C kFl W A files.length files
 fl:files.length≤c
 pc:Kd.C Kd.string W Ap ps.length ps
 hA:Ap=none∨∃b o,Ap=some ⟨b,o,none⟩
 npl:ps.length≤5
 nfl:files.length≤61
 fsz:∀f∈files,f.1.size≤4000∧f.2.size≤4000
 psz:∀p∈ps,p.size≤140737488355328
theorem iG.below {W W':World}{files:List Fl}{ps:List ByteArray}{A Ap:Option Addr}{c cp:Nat}(h:iG W files ps A Ap c cp)(hb:Below W.heap.size W W'):iG W' files ps A Ap c cp:=
 ⟨h.glob.below hb,Kd.fC h.fc hb,h.fl,Kd.fC h.pc hb,h.hA,h.npl,h.nfl,h.fsz,h.psz⟩
theorem uM:∀(files:List Fl) (m0 m:AL),jS m0 files=some m→(∀n u,eF m n=some u→eF m0 n=some u∨∃f∈files,f.1=n∧u= .string f.2)∧(∀n,(eF m0 n).isSome=true→(eF m n).isSome=true)∧∀f∈files,(eF m f.1).isSome=true
 |[],m0,m,h=>by
  obtain rfl:=Option.some.inj h
  exact ⟨fun n u h=> .inl h,fun n h=>h,fun f hf=>by simp at hf⟩
 |f::l,m0,m,h=>by
  unfold jS at h
  split at h
  · cases h
  · obtain ⟨h1,h2,h3⟩:=uM l _ m h
    refine ⟨fun n u hu=> ?_,fun n hn=>h2 n ?_,fun g hg=> ?_⟩
    · rcases h1 n u hu with h4|⟨g,hg,h5⟩
      · rw [jH] at h4
        split at h4
        · rename_i hn
          exact .inr ⟨f,List.mem_cons_self ..,((MapKept.bytes_beq _ _).1 hn).symm,(Option.some.inj h4).symm⟩
        · exact .inl h4
      · exact .inr ⟨g,List.mem_cons_of_mem _ hg,h5⟩
    · rw [jH]
      split
      · rfl
      · exact hn
    · rcases List.mem_cons.1 hg with rfl|hg
      · refine h2 _ ?_
        rw [jH,if_pos ((MapKept.bytes_beq _ _).2 rfl)];rfl
      · exact h3 g hg
theorem jU {files:List Fl}{m:AL}(h:eY files=(0,some m)):jS [] files=some m∧files.length≤60:=by
 unfold eY at h
 split at h
 · cases h
 · split at h
   · cases h
   · split at h
     · cases h
     · rename_i m' hm
       injection h with _ h
       injection h with h
       rw [←h];exact ⟨hm,by omega⟩
theorem nP {files:List Fl}{m:AL}(h:eY files=(0,some m)):(∀n u,eF m n=some u→∃f∈files,f.1=n∧u= .string f.2)∧∀f∈files,(eF m f.1).isSome=true:=by
 obtain ⟨h1,_,h3⟩:=uM files [] m (jU h).1
 refine ⟨fun n u hu=> ?_,h3⟩
 rcases h1 n u hu with h|h
 · cases h
 · exact h
theorem Eo (incs:Nat→Option (ByteArray × Bool))(files:Nat→ByteArray)(gs:List Gr):∀k,∀x∈usF incs files gs k,∃i,incs i=some (x.1,x.2.1)∧x.2.2=files i
 |0,x,h=>by simp [usF] at h
 |k+1,x,h=>by
  unfold usF at h
  rcases List.mem_append.1 h with h|h
  · exact Eo incs files gs k x h
  · split at h
    · rename_i n q hi
      split at h
      · obtain rfl:=List.mem_singleton.1 h
        exact ⟨k,hi,rfl⟩
      · simp at h
    · simp at h
theorem Gw (m:AL)(ps:List ByteArray)(n:ByteArray):∀u∈usR m ps n,u.2.2.toList≠[]→(eF m u.2.2).isSome=true:=by
 intro u hu hne
 unfold usR usT at hu
 split at hu
 · simp at hu
 · obtain ⟨i,h1,h2⟩:=Eo _ _ _ _ u hu
   unfold nI at h2
   rw [h1] at h2
   simp only at h2
   rcases zJ m ((uP ps n u.2.1).map fun d=>iO d u.1) with h|h
   · refine absurd ?_ hne
     rw [h2]
     unfold EP
     rw [h,ByteArray.toList_eq]
   · rw [h2];exact h
def gR (m:AL)(ps:List ByteArray)(n:ByteArray):List ByteArray:=iw (usR m ps n)
section
variable {W:World}{files:List Fl}{ps:List ByteArray}{A Ap:Option Addr}{c cp:Nat}{m:AL}
theorem iG.J5 (H:iG W files ps A Ap c cp)(hm:eY files=(0,some m)):∀n u,eF m n=some u→∃s,u= .string s∧s.size≤4000∧n.size≤4000:=fun n u hu=>by
 obtain ⟨f,hf,h1,h2⟩:=(nP hm).1 n u hu
 have:=H.fsz f hf
 exact ⟨f.2,h2,this.2,by rw [←h1];exact this.1⟩
theorem iG.KT (H:iG W files ps A Ap c cp)(hm:eY files=(0,some m)):La W m ps Ap:=⟨H.glob,H.pc,H.hA,H.npl,H.J5 hm,H.psz⟩
theorem iG.text (H:iG W files ps A Ap c cp)(hm:eY files=(0,some m))(n:ByteArray):(kG m n).size≤4000:=by
 unfold kG
 split
 · rename_i s h
   obtain ⟨s',h1,h2,_⟩:=H.J5 hm n _ h
   injection h1 with h1
   rw [h1];exact h2
 · show 0≤4000
   omega
theorem iG.env (H:iG W files ps A Ap c cp)(hm:eY files=(0,some m))(PB fm cm:Nat):Env (usR m ps) (erN m) W m (.slice Ap ps.length cp) PB fm cm (files.map (·.1)) where
 nm n hn:=by
  obtain ⟨u,hu⟩:=Option.isSome_iff_exists.1 hn
  obtain ⟨f,hf,h1,_⟩:=(nP hm).1 n u hu
  exact List.mem_map.2 ⟨f,hf,h1⟩
 rd n hn:=fun W' P=>BR m ps Ap cp PB fm cm W W' n (H.KT hm) hn P
 fs n:=Gw m ps n
 len n:=by
  unfold usR usT
  split
  · simp
  · have h1:=pK (jf (kG m n)) (nI m ps n (kG m n)) (grR (kG m n)) (eG (kG m n)).1.length
    have h2:=(pU (kG m n) (H.text hm n)).1
    omega
 small:=by rw [List.length_map];have:=H.nfl;omega
theorem tu {PB fm cm:Nat}{W':World}(hP:uU W.heap.size W' PB fm cm (.slice Ap ps.length cp) m [])(hb:Below W.heap.size W W'):PS (usR m ps) (erN m) W m (.slice Ap ps.length cp) PB fm cm W':=
 ⟨hb,[],hP,fun n u hu=>by cases hu⟩
theorem Bl (files:List Fl)(name:ByteArray):(∃er,er≠0∧jB files name=(er,none))∨∃m,eY files=(0,some m)∧(eF m name).isSome=true∧jB files name=(0,some m):=by
 rcases nR files with ⟨h1,h2⟩|⟨m,hm⟩
 · have h3:eY files=((eY files).1,none):=by rw [←h1]
   exact .inl ⟨(eY files).1,by omega,by unfold jB;rw [h3]⟩
 · unfold jB
   rw [hm]
   by_cases h:(eF m name).isSome=true
   · exact .inr ⟨m,rfl,h,by simp only;rw [if_pos h]⟩
   · exact .inl ⟨4,by decide,by simp only;rw [if_neg h]⟩
end
end Go.Proofs.YtolaiebjmhieiaaGreatDoor.OScan
end
section
namespace Go.Proofs.YtolaiebjmhieiaaGreatDoor.OScan
open Go.RowKit YtolaiebjmhieiaaGreatDoorW.PrintWords YtolaiebjmhieiaaGreatDoorW.PrintLast YtolaiebjmhieiaaGreatDoorW.PrintMore
open Go.Sort (putRow putCells mapBlock onCells Holds grow)
structure NV {α:Type}(enc:α→Value)(w W':World)(g e:Nat)(cur:Array Value)(d:Array α):Prop where
 row:∃cur',W'.heap[g]? =some (.cells cur' e (0,0))∧cur'.size=cur.size∧cur'.toList.take d.size=d.toList.map enc
 keep:∀k,k<w.heap.size→k≠g→W'.heap[k]? =w.heap[k]?
 size:w.heap.size≤W'.heap.size
 os:W'.os=w.os
 tape:W'.tape=w.tape
 output:W'.output=w.output
theorem EC {α:Type}[Inhabited α](enc:α→Value)(w:World)(g e:Nat)(cur:Array Value)(hh:w.heap[g]? =some (.cells cur e (0,0)))(d:Array α)(m:Nat)(os:Array Obj)(hs:d.size≤cur.size):
 NV enc w (grow (putRow enc (Go.Sort.ahead w m) g 0 d) os) g e cur d:=by
 have hg:g<w.heap.size:=aT hh
 have hheap:(grow (putRow enc (Go.Sort.ahead w m) g 0 d) os).heap=w.heap.modify g (onCells (putCells enc 0 d))++os:=rfl
 refine ⟨⟨putCells enc 0 d cur,?_,?_,?_⟩,fun k hk hne=> ?_,?_,rfl,rfl,rfl⟩
 · rw [hheap,Array.getElem?_append_left (by simpa using hg),Array.getElem?_modify,if_pos rfl,hh]
   rfl
 · simp [putCells]
 · apply List.ext_getElem?
   intro j
   rw [List.getElem?_take,List.getElem?_map,Array.getElem?_toList,Array.getElem?_toList]
   unfold putCells
   rw [Array.getElem?_mapIdx]
   by_cases hj:j<d.size
   · rw [if_pos hj,Array.getElem?_eq_getElem (show j<cur.size by omega),Array.getElem?_eq_getElem hj]
     simp only [Option.map_some]
     rw [if_pos ⟨Nat.zero_le _,by omega⟩,Nat.sub_zero,getElem!_pos d j hj]
   · rw [if_neg hj,Array.getElem?_eq_none (by omega)];rfl
 · rw [hheap,Array.getElem?_append_left (by simpa using hk),Array.getElem?_modify,if_neg (Ne.symm hne)]
 · rw [hheap,Array.size_append,Array.size_modify];omega
theorem Gg (b:ByteArray):(⟨b.data.toList.toArray⟩:ByteArray)=b:=by simp
end Go.Proofs.YtolaiebjmhieiaaGreatDoor.OScan
end
section
namespace Go.Proofs.YtolaiebjmhieiaaGreatDoor.OScan
open Go.RowKit YtolaiebjmhieiaaGreatDoorW.PrintWords YtolaiebjmhieiaaGreatDoorW.PrintLast YtolaiebjmhieiaaGreatDoorW.PrintMore
section
variable {W:World}{files:List Fl}{ps:List ByteArray}{A Ap:Option Addr}{c cp:Nat}{m:AL}
theorem AZ {w w':World}{base:Nat}{v:Value}{xs:List ByteArray}(h:Kd.R Kd.string 9 w base (fun _=>True) v xs)(hk:∀(k:Nat) (cs:Array Value),w.heap[k]? =some (Obj.cells cs 9 (0,0))→w'.heap[k]? =w.heap[k]?):Kd.R Kd.string 9 w' base (fun _=>True) v xs:=
 Kd.fM (Kd.lJ (Kd.iJ h) (fun k ho _=>by
  obtain ⟨_,_,_,q,hq,cs,hc⟩:=ho
  obtain rfl:q=9:=by
   rcases List.mem_cons.1 hq with h|h
   · exact h
   · exact absurd (show q∈([]:List Nat) from h) (by simp)
  exact hk _ _ hc)) (fun _ _=>trivial)
theorem Md (H:iG W files ps A Ap c cp)(hm:eY files=(0,some m))(hall:∀f∈files,erN m f.1=0)(PB fm cm:Nat)(name:ByteArray)(hn:(eF m name).isSome=true)(w:World)(P:PS (usR m ps) (erN m) W m (.slice Ap ps.length cp) PB fm cm w):
 Calls Tryz.prog 26 #[.pointer (some ⟨PB,0,none⟩),.string name] w fun e w'=>∃(out:List ByteArray) (v:Value),e= .returned (.tuple #[v,.int .i64 0])∧Graph.Found (erN m) (gR m ps) name out∧Kd.R Kd.string 9 w' w.heap.size (fun _=>True) v out∧PS (usR m ps) (erN m) W m (.slice Ap ps.length cp) PB fm cm w'∧w.heap.size≤w'.heap.size∧(∀k,k<w.heap.size→k≠cm→w'.heap[k]? =w.heap[k]?)∧out.length≤1000:=by
 have E:=H.env hm PB fm cm
 refine (EX E name w hn P).mono ?_
 rintro e w' ⟨er',met',out',v',rfl,hw,hr,hps,hs,hk⟩
 have h0:er'=0:=Graph.Jl (erN m) (fun n=>iw (usR m ps n)) (names:=files.map (·.1)) (fun x hx=>by
  obtain ⟨f,hf,rfl⟩:=List.mem_map.1 hx
  exact hall f hf) E.in_ _ _ _ _ _ _ hw (E.nm name hn)
 subst h0
 rw [if_pos rfl] at hr
 have h1:=(Graph.nN (erN m) (fun n=>iw (usR m ps n)) E.in_ _ _ _ _ _ _ hw (E.nm name hn)).2
 have h2:=left_le (files.map (·.1)) []
 have h3:=E.small
 simp only [List.length_nil] at h1
 exact ⟨out',v',rfl,Graph.qC (erN m) (gR m ps) hw,hr,hps,hs,hk,by omega⟩
theorem Jf {w:World}{base:Nat}{v:Value}{xs:List ByteArray}(h:Kd.R Kd.string 9 w base (fun _=>True) v xs):∀k,some k=v.ownBlock→base≤k∧∃cs,w.heap[k]? =some (Obj.cells cs 9 (0,0)):=fun k hk=>by
 obtain ⟨inner,ho⟩:=Kd.uT h
 exact ⟨own_base ho k hk.symm,Kd.fQ h k hk.symm⟩
theorem PS.LV {us:ByteArray→List Us}{er:ByteArray→Int}{w0:World}{m:AL}{pv:Value}{PB fm cm:Nat}{w w':World}{v:Value}{base:Nat}{xs:List ByteArray}(P:PS us er w0 m pv PB fm cm w)(hR:Kd.R Kd.string 9 w base (fun _=>True) v xs)(hb:Below w0.heap.size w0 w')(hg:∀k,k<w.heap.size→some k≠v.ownBlock→w'.heap[k]? =w.heap[k]?):PS us er w0 m pv PB fm cm w':=by
 obtain ⟨c,hP,_⟩:=P.prj
 have hcell:∀{k t:Nat} {cs:Array Value},w.heap[k]? =some (.cells cs t (0,0))→t≠9→w'.heap[k]? =w.heap[k]? :=fun {k t cs} h ht=>hg k (aT h) (Kd.AX hR h (by omega))
 have hmap:∀{k:Nat} {es:Array MapEntry} {cl:Nat},w.heap[k]? =some (.map es cl)→w'.heap[k]? =w.heap[k]? :=fun {k es cl} h=>hg k (kD h) (fun hk=>by
  obtain ⟨_,cs,h2⟩:=Jf hR k hk
  rw [h] at h2
  cases h2)
 refine P.kept hb (fun k hk=> ?_)
 rcases hk with rfl|rfl|rfl|⟨cs,h|h⟩
 · exact hcell hP.hP (by decide)
 · obtain ⟨es,cl,h,_⟩:=hP.hm;exact hmap h
 · obtain ⟨es,cl,h,_⟩:=hP.hc;exact hmap h
 · exact hcell h (by decide)
 · exact hcell h (by decide)
theorem Gj {w0 w w':World}{v:Value}{xs:List ByteArray}(hb:Below w0.heap.size w0 w)(hR:Kd.R Kd.string 9 w w0.heap.size (fun _=>True) v xs)(hs:w.heap.size≤w'.heap.size)(hk:∀k,k<w.heap.size→some k≠v.ownBlock→w'.heap[k]? =w.heap[k]?)(h1:w'.os=w.os)(h2:w'.tape=w.tape)(h3:w'.output=w.output):Below w0.heap.size w0 w':=
 ⟨h1.trans hb.os,h2.trans hb.tape,h3.trans hb.output,by have:=hb.size;omega,fun k hk'=>(hk k (by have:=hb.size;omega) (fun e=>by have:=(Jf hR k e).1;omega)).trans (hb.block k hk')⟩
end
end Go.Proofs.YtolaiebjmhieiaaGreatDoor.OScan
end
section
namespace Go.Proofs
open Go.Shelf
def Tryz.xW:Go.Shelf.Ren:=⟨fun|6=>32|15=>56|14=>60|28=>95|29=>96|20=>101|21=>102|22=>103|23=>104|24=>105|25=>106|26=>107|27=>108|46=>147|47=>141|48=>142|49=>148|50=>149|57=>186|n=>n,fun|22=>40|24=>43|25=>70|3=>3|39=>116|0=>0|53=>78|55=>159|4=>4|46=>151|45=>150|50=>155|5=>5|9=>9|66=>195|70=>199|76=>222|77=>193|n=>n,fun|n=>n⟩
theorem Tryz.yG:Go.Proofs.SlLaysF0.n6 Tryz.prog Tryz.xW:={
 mixed:=by kernel_rfl
 f6:=⟨Tryz.f32.name,by decide,Tryz.func32.trans (congrArg some (by kernel_rfl))⟩
 f14:=⟨Tryz.f60.name,by decide,Tryz.func60.trans (congrArg some (by kernel_rfl))⟩
 f15:=Tryz.func56.trans (congrArg some (by kernel_rfl))
 f20:=⟨Tryz.f101.name,by decide,Tryz.func101.trans (congrArg some (by kernel_rfl))⟩
 f21:=⟨Tryz.f102.name,by decide,Tryz.func102.trans (congrArg some (by kernel_rfl))⟩
 f22:=⟨Tryz.f103.name,by decide,Tryz.func103.trans (congrArg some (by kernel_rfl))⟩
 f23:=⟨Tryz.f104.name,by decide,Tryz.func104.trans (congrArg some (by kernel_rfl))⟩
 f24:=⟨Tryz.f105.name,by decide,Tryz.func105.trans (congrArg some (by kernel_rfl))⟩
 f25:=⟨Tryz.f106.name,by decide,Tryz.func106.trans (congrArg some (by kernel_rfl))⟩
 f26:=⟨Tryz.f107.name,by decide,Tryz.func107.trans (congrArg some (by kernel_rfl))⟩
 f27:=⟨Tryz.f108.name,by decide,Tryz.func108.trans (congrArg some (by kernel_rfl))⟩
 f28:=Tryz.func95.trans (congrArg some (by kernel_rfl))
 f29:=Tryz.func96.trans (congrArg some (by kernel_rfl))
 f46:=⟨Tryz.f147.name,by decide,Tryz.func147.trans (congrArg some (by kernel_rfl))⟩
 f47:=Tryz.func141.trans (congrArg some (by kernel_rfl))
 f48:=Tryz.func142.trans (congrArg some (by kernel_rfl))
 f49:=⟨Tryz.f148.name,by decide,Tryz.func148.trans (congrArg some (by kernel_rfl))⟩
 f50:=⟨Tryz.f149.name,by decide,Tryz.func149.trans (congrArg some (by kernel_rfl))⟩
 f57:=⟨Tryz.f186.name,by decide,Tryz.func186.trans (congrArg some (by kernel_rfl))⟩
 t0:=Tryz.underlying0
 a0:=Tryz.isAgg0
 z0:=Tryz.sizeOf0
 v0:=Tryz.zeroValue0
 t3:=Tryz.underlying3
 a3:=Tryz.isAgg3
 z3:=Tryz.sizeOf3
 v3:=Tryz.zeroValue3
 t4:=Tryz.underlying4
 a4:=Tryz.isAgg4
 z4:=Tryz.sizeOf4
 v4:=Tryz.zeroValue4
 t5:=Tryz.underlying5
 a5:=Tryz.isAgg5
 z5:=Tryz.sizeOf5
 v5:=Tryz.zeroValue5
 t9:=Tryz.underlying9
 a9:=Tryz.isAgg9
 z9:=Tryz.sizeOf9
 v9:=Tryz.zeroValue9
 t22:=Tryz.underlying40
 a22:=Tryz.isAgg40
 z22:=Tryz.sizeOf40
 v22:=Tryz.zeroValue40
 t25:=Tryz.underlying70
 a25:=Tryz.isAgg70
 z25:=Tryz.sizeOf70
 v25:=Tryz.zeroValue70
 t39:=Tryz.underlying116
 a39:=Tryz.isAgg116
 z39:=Tryz.sizeOf116
 v39:=Tryz.zeroValue116
 t45:=Tryz.underlying150
 a45:=Tryz.isAgg150
 z45:=Tryz.sizeOf150
 v45:=Tryz.zeroValue150
 t46:=Tryz.underlying151
 a46:=Tryz.isAgg151
 z46:=Tryz.sizeOf151
 v46:=Tryz.zeroValue151
 t50:=Tryz.underlying155
 a50:=Tryz.isAgg155
 z50:=Tryz.sizeOf155
 v50:=Tryz.zeroValue155
 t53:=Tryz.underlying78
 a53:=Tryz.isAgg78
 z53:=Tryz.sizeOf78
 v53:=Tryz.zeroValue78
 t55:=Tryz.underlying159
 a55:=Tryz.isAgg159
 z55:=Tryz.sizeOf159
 v55:=Tryz.zeroValue159
 t66:=Tryz.underlying195
 a66:=Tryz.isAgg195
 z66:=Tryz.sizeOf195
 v66:=Tryz.zeroValue195
 t70:=Tryz.underlying199
 a70:=Tryz.isAgg199
 z70:=Tryz.sizeOf199
 v70:=Tryz.zeroValue199
 t76:=Tryz.underlying222
 a76:=Tryz.isAgg222
 z76:=Tryz.sizeOf222
 v76:=Tryz.zeroValue222
 t77:=Tryz.underlying193
 a77:=Tryz.isAgg193
 z77:=Tryz.sizeOf193
 v77:=Tryz.zeroValue193}
end Go.Proofs
end
section
namespace Go.Proofs.YtolaiebjmhieiaaGreatDoor.OScan
open Go.RowKit YtolaiebjmhieiaaGreatDoorW.PrintWords YtolaiebjmhieiaaGreatDoorW.PrintLast YtolaiebjmhieiaaGreatDoorW.PrintMore
open Go.Sort (ltStr SWO)
abbrev Pr:=ByteArray × ByteArray
def nZ (x y:ByteArray):Int:=if ltStr x.toList y.toList=true then-1 else if ltStr y.toList x.toList=true then 1 else 0
def sD (x y:Pr):Int:=if nZ x.1 y.1≠0 then nZ x.1 y.1 else nZ x.2 y.2
theorem Ak (x:ByteArray)(w:World):Calls Tryz.prog 61 #[.string x] w fun e w'=>e= .returned (.bool false)∧w'=w:=by
 go_enter Tryz.func61,Tryz.ntmps61
 go_wp2_with (fail)
 go_ret
 exact ⟨by simp,rfl⟩
theorem EU (x y:ByteArray)(w:World):Calls Tryz.prog 35 #[.string x,.string y] w fun e w'=>e= .returned (.int .i64 (nZ x y))∧w'=w:=by
 have hb:=bytesLess_eq x.toList y.toList
 by_cases h1:x.toList<y.toList
 · have hc:nZ x y= -1:=by unfold nZ ltStr;rw [if_pos (by simpa using h1)]
   rw [decide_eq_true h1] at hb
   rw [hc]
   clear hc h1
   go_enter Tryz.func35,Tryz.ntmps35
   go_wp2_with (go_at_call 61;go_loud (refine (Ak _ _).mono ?_;rintro e w' ⟨rfl,rfl⟩))
   go_ret
   exact ⟨rfl,rfl⟩
 · rw [decide_eq_false h1] at hb
   by_cases h2:y.toList<x.toList
   · have hc:nZ x y=1:=by unfold nZ ltStr;rw [if_neg (by simpa using h1),if_pos (by simpa using h2)]
     have he:(x.toList==y.toList)=false:=beq_eq_false_iff_ne.mpr fun e=>by rw [e] at h2;exact List.lt_irrefl _ h2
     rw [hc]
     clear hc h1 h2
     go_enter Tryz.func35,Tryz.ntmps35
     go_wp2_with (go_at_call 61;go_loud (refine (Ak _ _).mono ?_;rintro e w' ⟨rfl,rfl⟩))
     go_ret
     exact ⟨rfl,rfl⟩
   · have hc:nZ x y=0:=by unfold nZ ltStr;rw [if_neg (by simpa using h1),if_neg (by simpa using h2)]
     have he:(x.toList==y.toList)=true:=beq_iff_eq.mpr (List.le_antisymm (List.not_lt.1 h2) (List.not_lt.1 h1))
     rw [hc]
     clear hc h1 h2
     go_enter Tryz.func35,Tryz.ntmps35
     go_wp2_with (go_at_call 61;go_loud (refine (Ak _ _).mono ?_;rintro e w' ⟨rfl,rfl⟩))
     go_ret
     exact ⟨rfl,rfl⟩
theorem LJ (a b:Int)(g:Nat)(w:World)(h:w.heap[g]? =some (.cells #[.int .i64 a,.int .i64 b] 3 (0,0))):Calls Tryz.prog 34 #[.slice (some ⟨g,0,none⟩) 2 2] w fun e w'=>e= .returned (.int .i64 (if a≠0 then a else b))∧w'=w:=by
 have c0:w.cell? ⟨g,0,none⟩=some (.int .i64 a):=by have:=cell_of_row w g 0 _ _ _ h;simpa using this
 have c1:w.cell? ⟨g,1,none⟩=some (.int .i64 b):=by have:=cell_of_row w g 1 _ _ _ h;simpa using this
 clear h
 obtain ⟨r,hr⟩:∃r,r=if a≠0 then a else b:=⟨_,rfl⟩
 rw [←hr]
 have HR:=z0 hr
 clear hr
 go_enter Tryz.func34,Tryz.ntmps34
 go_wp2_with (fail)
 go_loopg [8] 2 (fun kq v8 w'=>∃(i:Nat),v8= .int .i64 i∧ah (kq+i=2)∧ah (w'=w)∧ah (1≤i→a=0)∧ah (2≤i→b=0))
 case atStart=>exact ⟨0,rfl,⟨rfl⟩,⟨rfl⟩,⟨fun h=>by omega⟩,⟨fun h=>by omega⟩⟩
 case round=>
  obtain ⟨i,rfl,hki,hw,h1,h2⟩:=hrel
  have hki':=hki.out
  obtain rfl:=hw.out
  obtain ⟨rfl,rfl⟩|⟨rfl,rfl⟩|⟨rfl,rfl⟩:(gk=0∧i=2)∨(gk=1∧i=1)∨(gk=2∧i=0):=by omega
  · clear hki' hki hw
    go_wp2
    go_ret
    have ha:=h1.out (by omega)
    have hb:=h2.out (by omega)
    exact ⟨by rw [HR.out];simp [ha,hb],rfl⟩
  · clear hki' hki
    by_cases hb:b=0
    · have hb':(b !=0)=false:=by simp [hb]
      have HB:=z0 hb
      clear hb
      go_wp2
      go_roundg 0
      case measure=>omega
      case rel=>exact ⟨2,by (try simp),⟨by omega⟩,⟨rfl⟩,⟨fun _=>h1.out (by omega)⟩,⟨fun _=>HB.out⟩⟩
    · have hb':(b !=0)=true:=by simp [hb]
      have HB:=z0 hb
      clear hb
      go_wp2
      go_ret
      have ha:=h1.out (by omega)
      exact ⟨by rw [HR.out];simp [ha],rfl⟩
  · clear hki' hki
    by_cases ha:a=0
    · have ha':(a !=0)=false:=by simp [ha]
      have HA:=z0 ha
      clear ha
      go_wp2
      go_roundg 1
      case measure=>omega
      case rel=>exact ⟨1,by (try simp),⟨by omega⟩,⟨rfl⟩,⟨fun _=>HA.out⟩,⟨fun h=>by omega⟩⟩
    · have ha':(a !=0)=true:=by simp [ha]
      have HA:=z0 ha
      clear ha
      go_wp2
      go_ret
      have ha:=HA.out
      exact ⟨by rw [HR.out];simp [ha],rfl⟩
theorem Ig (x y:Pr)(w:World):Calls Tryz.prog 33 #[.agg #[.string x.1,.string x.2],.agg #[.string y.1,.string y.2]] w fun e w'=>e= .returned (.int .i64 (sD x y))∧∃q os',w'=Go.Sort.grow (w.drewN q) os':=by
 obtain ⟨x1,x2⟩:=x
 obtain ⟨y1,y2⟩:=y
 go_enter Tryz.func33,Tryz.ntmps33
 go_wp2_with (fail)
 obtain ⟨W1,hW1⟩:∃W1,W1=(w.alloc (Obj.cells #[Value.string x1,Value.string x2] 43)).alloc (Obj.cells #[Value.string y1,Value.string y2] 43):=⟨_,rfl⟩
 rw [←hW1]
 have hA:W1.heap[w.heap.size]? =some (.cells #[Value.string x1,Value.string x2] 43 (0,0)):=by rw [hW1];exact dN (dh _ _) _
 have hBb:W1.heap[w.heap.size+1]? =some (.cells #[Value.string y1,Value.string y2] 43 (0,0)):=by rw [hW1];exact alloc_at (by simp)
 have HW:=z0 hW1
 clear hW1
 refine wp_region_still_tail 10 (by kernel_rfl) (by kernel_rfl) ?_
 simp only [List.take_succ_cons,List.take_zero,List.drop_succ_cons,List.drop_zero]
 generalize hW2':({W1 with drawn:=W1.drawn+1}:World)=W2
 have hW2:W2=W1.drew:=hW2'.symm
 clear hW2'
 have a0:W2.cell? ⟨w.heap.size,0,none⟩=some (.string x1):=by rw [hW2];have:=cell_of_row _ _ 0 _ _ _ (dF hA);simpa using this
 have a1:W2.cell? ⟨w.heap.size,1,none⟩=some (.string x2):=by rw [hW2];have:=cell_of_row _ _ 1 _ _ _ (dF hA);simpa using this
 have b0:W2.cell? ⟨w.heap.size+1,0,none⟩=some (.string y1):=by rw [hW2];have:=cell_of_row _ _ 0 _ _ _ (dF hBb);simpa using this
 have b1:W2.cell? ⟨w.heap.size+1,1,none⟩=some (.string y2):=by rw [hW2];have:=cell_of_row _ _ 1 _ _ _ (dF hBb);simpa using this
 have HW2:=z0 hW2
 clear hW2 hA hBb
 still_step
 still_step
 still_step
 still_step
 still_call (EU _ _ _)
 still_step
 still_step
 still_step
 still_step
 still_call (EU _ _ _)
 refine wpStill_nil ?_
 have HOR:=LJ (nZ x1 y1) (nZ x2 y2) W2.heap.size (W2.alloc (Obj.cells #[.int .i64 (nZ x1 y1),.int .i64 (nZ x2 y2)] 3)) (dh _ _)
 obtain ⟨r,hr⟩:∃r,r=if nZ x1 y1≠0 then nZ x1 y1 else nZ x2 y2:=⟨_,rfl⟩
 rw [←hr] at HOR
 have HR:ah (r=sD (x1,x2) (y1,y2)):=⟨hr⟩
 clear hr a0 a1 b0 b1
 generalize nZ x1 y1=c1 at *
 generalize nZ x2 y2=c2 at *
 go_wp2_with (go_at_call 34;go_loud (refine HOR.mono ?_;rintro e w' ⟨rfl,rfl⟩))
 go_ret
 refine ⟨by rw [←HR.out];rfl,1,#[Obj.cells #[Value.string x1,Value.string x2] 43]++ #[Obj.cells #[Value.string y1,Value.string y2] 43]++ #[Obj.cells #[Value.int IntKind.i64 c1,Value.int IntKind.i64 c2] 3],?_⟩
 have e:W2.alloc (Obj.cells #[Value.int IntKind.i64 c1,Value.int IntKind.i64 c2] 3)=(((w.drewN 1).alloc (Obj.cells #[Value.string x1,Value.string x2] 43)).alloc (Obj.cells #[Value.string y1,Value.string y2] 43)).alloc (Obj.cells #[Value.int IntKind.i64 c1,Value.int IntKind.i64 c2] 3):=by rw [HW2.out,HW.out];rfl
 rw [e,Go.Sort.alloc_eq_grow,Go.Sort.alloc_eq_grow,Go.Sort.alloc_eq_grow,Go.Sort.grow_grow,Go.Sort.grow_grow,Array.append_assoc]
theorem Js {β:Type}(l:β→β→Bool)(h:SWO l):SWO (fun x y:β × β=>l x.1 y.1||(!l y.1 x.1&&l x.2 y.2)) where
 irrefl x:=by simp [h.irrefl]
 trans x y z h1 h2:=by
  have t1:=h.trans x.1 y.1 z.1
  have t2:=h.trans x.2 y.2 z.2
  have n1:=h.ntrans x.1 z.1 y.1
  have n2:=h.ntrans y.1 x.1 z.1
  have n3:=h.ntrans z.1 y.1 x.1
  revert t1 t2 n1 n2 n3 h1 h2
  generalize l x.1 y.1=a
  generalize l y.1 z.1=b
  generalize l x.1 z.1=c
  generalize l z.1 x.1=d
  generalize l z.1 y.1=e
  generalize l y.1 x.1=f
  generalize l x.2 y.2=p
  generalize l y.2 z.2=q
  generalize l x.2 z.2=r
  cases a<;>cases b<;>cases c<;>cases d<;>cases e<;>cases f<;>cases p<;>cases q<;>cases r<;>simp
 ntrans x y z h1 h2:=by
  have n0:=h.ntrans x.1 y.1 z.1
  have n4:=h.ntrans x.2 y.2 z.2
  have n1:=h.ntrans y.1 z.1 x.1
  have n2:=h.ntrans z.1 x.1 y.1
  revert n0 n4 n1 n2 h1 h2
  generalize l x.1 y.1=a
  generalize l y.1 z.1=b
  generalize l x.1 z.1=c
  generalize l z.1 x.1=d
  generalize l z.1 y.1=e
  generalize l y.1 x.1=f
  generalize l x.2 y.2=p
  generalize l y.2 z.2=q
  generalize l x.2 z.2=r
  cases a<;>cases b<;>cases c<;>cases d<;>cases e<;>cases f<;>cases p<;>cases q<;>cases r<;>simp
end Go.Proofs.YtolaiebjmhieiaaGreatDoor.OScan
end
section
namespace Go.Proofs.YtolaiebjmhieiaaGreatDoor.OScan
open Go.RowKit YtolaiebjmhieiaaGreatDoorW.PrintWords YtolaiebjmhieiaaGreatDoorW.PrintLast YtolaiebjmhieiaaGreatDoorW.PrintMore
theorem ED (xs:Array Value)(i:Nat)(v:Value)(w:World)(h:xs[i]? =some v):(part 9 xs i).run Tryz.prog w= .ok v w:=by
 simp [part,Tryz.isAgg9,h]
theorem Dj (d:Nat)(a b:ByteArray)(w:World):(Op.equalIn (d+1) 9 (.string a) (.string b)).run Tryz.prog w= .ok (a.toList==b.toList) w:=by
 simp [Op.equalIn,run_underlying Tryz.underlying9,ByteArray.toList_eq]
 rfl
theorem zL (d:Nat)(x1 x2 y1 y2:ByteArray)(w:World):(Op.eqItems (d+1) 9 1 #[.string x1,.string x2] #[.string y1,.string y2] [0,1]).run Tryz.prog w= .ok (x1.toList==y1.toList&&x2.toList==y2.toList) w:=by
 have p1:=ED #[.string x1,.string x2] (0*1) (.string x1) w rfl
 have p2:=ED #[.string y1,.string y2] (0*1) (.string y1) w rfl
 have p3:=ED #[.string x1,.string x2] (1*1) (.string x2) w rfl
 have p4:=ED #[.string y1,.string y2] (1*1) (.string y2) w rfl
 have e1:=Dj d x1 y1 w
 have e2:=Dj d x2 y2 w
 simp only [Op.eqItems,Sem.run_bind,p1,p2,e1,Result.andThen_ok]
 cases x1.toList==y1.toList
 · simp
 · simp only [Bool.not_true,Bool.false_eq_true,if_false,Sem.run_bind,p3,p4,e2,Result.andThen_ok]
   cases x2.toList==y2.toList<;>simp
theorem Ns (x1 x2 y1 y2:ByteArray)(w:World):(binOp BinOp.eql 43 (.agg #[.string x1,.string x2]) (.agg #[.string y1,.string y2])).run Tryz.prog w= .ok (.bool (x1.toList==y1.toList&&x2.toList==y2.toList)) w:=by
 rw [run_eql_struct]
 obtain ⟨i,hi⟩:∃i,Tryz.prog.info? 9=some i:=by
  obtain ⟨i,hi,_⟩:=Option.map_eq_some_iff.1 info9
  exact ⟨i,hi⟩
 have h:=run_equalIn_array (P:=Tryz.prog) (w:=w) 9999 (t:=43) (n:=2) #[.string x1,.string x2] #[.string y1,.string y2] Tryz.underlying43 hi
 have hc:Tryz.prog.cellsOf 9=1:=by kernel_rfl
 rw [hc] at h
 have h2:=zL 9998 x1 x2 y1 y2 w
 rw [show List.range 2=[0,1] from rfl] at h
 rw [h,h2]
 rfl
theorem Nk (x1 x2 y1 y2:ByteArray)(w:World):(binOp BinOp.neq 43 (.agg #[.string x1,.string x2]) (.agg #[.string y1,.string y2])).run Tryz.prog w= .ok (.bool (!(x1.toList==y1.toList&&x2.toList==y2.toList))) w:=by
 rw [run_neq_struct]
 obtain ⟨i,hi⟩:∃i,Tryz.prog.info? 9=some i:=by
  obtain ⟨i,hi,_⟩:=Option.map_eq_some_iff.1 info9
  exact ⟨i,hi⟩
 have h:=run_equalIn_array (P:=Tryz.prog) (w:=w) 9999 (t:=43) (n:=2) #[.string x1,.string x2] #[.string y1,.string y2] Tryz.underlying43 hi
 have hc:Tryz.prog.cellsOf 9=1:=by kernel_rfl
 rw [hc] at h
 have h2:=zL 9998 x1 x2 y1 y2 w
 rw [show List.range 2=[0,1] from rfl] at h
 rw [h,h2]
 rfl
theorem Lc (n:Nat):(Builtin.zeroCells (Value.agg #[.string ⟨#[]⟩,.string ⟨#[]⟩]).cells n).toList=List.replicate (n*2) (Value.string ⟨#[]⟩):=by
 simp [Builtin.zeroCells,Value.cells]
 apply List.ext_getElem
 · simp
 · intro i h1 h2
   simp
   have:i % 2=0∨i % 2=1:=by omega
   rcases this with h|h<;>simp [h]
theorem Kw (w:World)(ty:TypeId)(b o n c:Nat)(hn:0<n)(hc:∀j,j<n*2→(w.cell? ⟨b,o+j,none⟩).isSome=true)(hf:∀j,j<n*2→w.frozen? ⟨b,o+j,none⟩=false):
 (Builtin.clear_ #[40] ty #[.slice (some ⟨b,o,none⟩) n c]).run Tryz.prog w= .ok (.tuple #[]) (w.setCells b o (List.replicate (n*2) (.string ⟨#[]⟩))):=by
 have hst:=run_storeCells_cells (P:=Tryz.prog) b o (List.replicate (n*2) (Value.string ⟨#[]⟩)) 0 w (by simpa using hc) (by simpa using hf) (by intro v hv';rw [List.eq_of_mem_replicate hv'];rfl)
 simp only [Nat.add_zero] at hst
 have hz:=Lc n
 obtain ⟨m,rfl⟩:∃m,n=m+1:=⟨n-1,by omega⟩
 simp [Builtin.clear_,run_underlying Tryz.underlying40,Tryz.zeroValue43,hz,hst]
def jM (w:World)(g C:Nat)(dk:List Pr):Prop:=∃cells,w.heap[g]? =some (.cells cells 43 (0,0))∧cells.size=C∧∀(j:Nat) (x:Pr),dk[j]? =some x→cells[j*2]? =some (.string x.1)∧cells[j*2+1]? =some (.string x.2)
theorem jM.cell {w:World}{g C:Nat}{dk:List Pr}(h:jM w g C dk){j:Nat}{x:Pr}(hx:dk[j]? =some x):w.cell? ⟨g,j*2,none⟩=some (.string x.1)∧w.cell? ⟨g,j*2+1,none⟩=some (.string x.2):=by
 obtain ⟨cells,h1,_,h3⟩:=h
 obtain ⟨h4,h5⟩:=h3 j x hx
 exact ⟨by rw [cell_of_row w g _ _ _ _ h1];exact h4,by rw [cell_of_row w g _ _ _ _ h1];exact h5⟩
theorem jM.frozen {w:World}{g C:Nat}{dk:List Pr}(h:jM w g C dk)(j:Nat):w.frozen? ⟨g,j,none⟩=false:=by
 obtain ⟨cells,h1,_⟩:=h
 exact aj h1 j
theorem lZ {w w':World}{g:Nat}(h:gI w w' g)(q:Nat):gI w (w'.drewN q) g:=⟨h.os,h.tape,h.output,h.size,h.block⟩
theorem mQ {w w':World}{g:Nat}(h:gI w w' g)(o:Nat)(u:Value):gI w (w'.setCell ⟨g,o,none⟩ u) g:=
 ⟨h.os,h.tape,h.output,by have:=h.size;simpa using this,fun i hi=>(Below.heap_setCell _ ⟨g,o,none⟩ _ i hi).trans (h.block i hi)⟩
theorem oO {w:World}{g:Nat}:∀{w':World},gI w w' g→∀(o:Nat) (vs:List Value),gI w (w'.setCells g o vs) g
 |w',h,o,[]=>h
 |w',h,o,v::vs=>oO (mQ h o v) (o+1) vs
structure CI (ys:List Pr)(k k2 kk:Nat)(dk:List Pr):Prop where
 len:dk.length=ys.length
 lt:kk+1≤k+k2
 pos:1≤kk
 cov:∀(j:Nat) (x:Pr),j<k+k2→ys[j]? =some x→x∈dk.take kk
 high:∀j,k+k2≤j+1→dk[j]? =ys[j]?
theorem CI.start {ys:List Pr}{k:Nat}(hk:1≤k)(hn:k<ys.length)(hd:ys[k]? =ys[k-1]?):CI ys k 1 k ys:=by
 refine ⟨rfl,by omega,hk,fun j x hj hx=> ?_,fun _ _=>rfl⟩
 have key:∀j,j<k→ys[j]? =some x→x∈ys.take k:=fun j hj hx=>by
  refine List.mem_of_getElem? (i:=j) ?_
  rw [List.getElem?_take,if_pos hj];exact hx
 by_cases hjk:j=k
 · subst hjk
   exact key (j-1) (by omega) (by rw [←hd];exact hx)
 · exact key j (by omega) hx
theorem CI.skip {ys dk:List Pr}{k k2 kk:Nat}(h:CI ys k k2 kk dk)(hk:1≤k+k2)(hd:ys[k+k2]? =ys[k+k2-1]?):CI ys k (k2+1) kk dk:=by
 refine ⟨h.len,by have:=h.lt;omega,h.pos,fun j x hj hx=> ?_,fun j hj=>h.high j (by omega)⟩
 by_cases hjk:j=k+k2
 · subst hjk
   exact h.cov (k+k2-1) x (by omega) (by rw [←hd];exact hx)
 · exact h.cov j x (by omega) hx
theorem CI.keep {ys dk:List Pr}{k k2 kk:Nat}(h:CI ys k k2 kk dk){x:Pr}(hx:ys[k+k2]? =some x)(hkk:kk<dk.length):CI ys k (k2+1) (kk+1) (dk.set kk x):=by
 refine ⟨by rw [List.length_set];exact h.len,by have:=h.lt;omega,by omega,fun j y hj hy=> ?_,fun j hj=> ?_⟩
 · have ht:(dk.set kk x).take (kk+1)=dk.take kk++[x]:=by
    rw [List.take_add_one,List.take_set_of_le (Nat.le_refl _)]
    rw [List.getElem?_set_self hkk];rfl
   rw [ht]
   by_cases hjk:j=k+k2
   · subst hjk
     rw [hx] at hy
     obtain rfl:=Option.some.inj hy
     exact List.mem_append_right _ (List.mem_singleton.2 rfl)
   · exact List.mem_append_left _ (h.cov j y (by omega) hy)
 · have:=h.lt
   rw [List.getElem?_set_ne (by omega)]
   exact h.high j (by omega)
theorem jM.set {w:World}{g C:Nat}{dk:List Pr}(h:jM w g C dk)(kk:Nat)(x:Pr):jM ((w.setCell ⟨g,kk*2,none⟩ (.string x.1)).setCell ⟨g,kk*2+1,none⟩ (.string x.2)) g C (dk.set kk x):=by
 obtain ⟨cells,h1,h2,h3⟩:=h
 refine ⟨_,dR (dR h1 (kk*2) (.string x.1) rfl) (kk*2+1) (.string x.2) rfl,by simp [h2],fun j y hy=> ?_⟩
 rw [List.getElem?_set] at hy
 by_cases hj:kk=j
 · subst hj
   rw [if_pos rfl] at hy
   split at hy
   · rename_i hlt
     obtain rfl:=Option.some.inj hy
     obtain ⟨q0,q1⟩:=h3 kk _ (List.getElem?_eq_getElem hlt)
     have s0:=(Array.getElem?_eq_some_iff.1 q0).1
     have s1:=(Array.getElem?_eq_some_iff.1 q1).1
     exact ⟨by rw [Array.getElem?_setIfInBounds_ne (by omega),Array.getElem?_setIfInBounds_self_of_lt s0],by rw [Array.getElem?_setIfInBounds_self_of_lt (by simpa using s1)]⟩
   · cases hy
 · rw [if_neg hj] at hy
   obtain ⟨q0,q1⟩:=h3 j y hy
   exact ⟨by rw [Array.getElem?_setIfInBounds_ne (by omega),Array.getElem?_setIfInBounds_ne (by omega)];exact q0,by rw [Array.getElem?_setIfInBounds_ne (by omega),Array.getElem?_setIfInBounds_ne (by omega)];exact q1⟩
end Go.Proofs.YtolaiebjmhieiaaGreatDoor.OScan
end
section
namespace Go.Proofs.YtolaiebjmhieiaaGreatDoor.OScan
open Go.RowKit YtolaiebjmhieiaaGreatDoorW.PrintWords YtolaiebjmhieiaaGreatDoorW.PrintLast YtolaiebjmhieiaaGreatDoorW.PrintMore
open Go.Sort (ltStr SWO PermIn swo_ltStr HoldsK flatK size_flatK get_flatK)
def uJ (x y:ByteArray):Bool:=ltStr x.toList y.toList
theorem GV:SWO uJ:=⟨fun x=>swo_ltStr.irrefl _,fun x y z h1 h2=>swo_ltStr.trans _ _ _ h1 h2,fun x y z h1 h2=>swo_ltStr.ntrans _ _ _ h1 h2⟩
theorem zy:ltOf sD=fun x y:Pr=>uJ x.1 y.1||(!uJ y.1 x.1&&uJ x.2 y.2):=by
 funext x y
 unfold ltOf sD nZ
 show decide _=_
 unfold uJ
 generalize ltStr x.1.toList y.1.toList=a
 generalize ltStr y.1.toList x.1.toList=b
 generalize ltStr x.2.toList y.2.toList=c
 generalize ltStr y.2.toList x.2.toList=d
 cases a<;>cases b<;>cases c<;>cases d<;>decide
theorem GU:SWO (ltOf sD):=by rw [zy];exact Js uJ GV
def Az (x:Pr):List Value:=[.string x.1,.string x.2]
def KI (w:World)(base:Nat)(v:Value)(xs:List Pr):Prop:=(v= .slice none 0 0∧xs=[])∨∃g cap C,v= .slice (some ⟨g,0,none⟩) xs.length cap∧base≤g∧jM w g C xs∧xs.length*2≤C∧xs.length≤cap
theorem F7 {w:World}{base:Nat}{v:Value}{xs:List Pr}(h:Kd.R kFl 43 w base (fun _=>True) v xs):KI w base v xs:=by
 obtain ⟨h0,inner,ho,hr⟩:=h
 rcases ho with ⟨ho1,⟨rfl,hn⟩|⟨g,cap,cur,rfl,hb,hh,hc1,hc2,hc3,hc4⟩⟩
 · exact .inl ⟨rfl,List.eq_nil_of_length_eq_zero hn⟩
 · have hc3':cur.size=cap*2:=hc3
   refine .inr ⟨g,cap,cap*2,rfl,hb,⟨cur,hh,hc3',fun j x hx=> ?_⟩,by omega,hc1⟩
   have hj:j<xs.length:=by
    rcases Nat.lt_or_ge j xs.length with h|h
    · exact h
    · rw [List.getElem?_eq_none h] at hx;cases hx
   have h3:=hr.2 j x hx
   have h4:(inner.drop (j*2)).take 2=[Value.string x.1,Value.string x.2]:=by
    obtain ⟨_,_,h5,rfl,h6⟩:=h3
    exact h5.trans (by rw [show _=[Value.string x.2] from h6];rfl)
   have hget:∀t,t<xs.length*2→inner[t]? =cur[t]? :=fun t ht=>by
    rw [←hc4]
    show (cur.toList.take (xs.length*2))[t]? =_
    rw [List.getElem?_take,if_pos ht,Array.getElem?_toList]
   have a0:=congrArg (fun l:List Value=>l[0]?) h4
   have a1:=congrArg (fun l:List Value=>l[1]?) h4
   simp only [List.getElem?_take,List.getElem?_drop] at a0 a1
   rw [if_pos (by omega),hget _ (by omega)] at a0
   rw [if_pos (by omega),hget _ (by omega)] at a1
   exact ⟨a0,a1⟩
structure FrP (w w':World)(base:Nat):Prop where
 size:w.heap.size≤w'.heap.size
 keep:∀k,k<w.heap.size→k<base→w'.heap[k]? =w.heap[k]?
 os:w'.os=w.os
 tape:w'.tape=w.tape
 output:w'.output=w.output
theorem FrP.below {w0 w w':World}(hb:Below w0.heap.size w0 w)(h:FrP w w' w0.heap.size):Below w0.heap.size w0 w':=
 ⟨h.os.trans hb.os,h.tape.trans hb.tape,h.output.trans hb.output,Nat.le_trans hb.size h.size,fun k hk=>(h.keep k (by have:=hb.size;omega) hk).trans (hb.block k hk)⟩
theorem Dn (w:World):Calls Tryz.prog 36 #[.slice none 0 0] w fun e w'=>e= .returned (.slice none 0 0)∧w'=w:=by
 go_enter Tryz.func36,Tryz.ntmps36
 go_wp2_with (fail)
 go_ret
 exact ⟨rfl,rfl⟩
end Go.Proofs.YtolaiebjmhieiaaGreatDoor.OScan
end
section
namespace Go.Proofs.YtolaiebjmhieiaaGreatDoor.OScan
open Go.RowKit YtolaiebjmhieiaaGreatDoorW.PrintWords YtolaiebjmhieiaaGreatDoorW.PrintLast YtolaiebjmhieiaaGreatDoorW.PrintMore
theorem II:(Tryz.prog.info? 43).map (fun i=>(i.zero,i.size,i.bytes))=some (some (.agg #[(.string ⟨#[]⟩),(.string ⟨#[]⟩)]),2,32):=by kernel_rfl
theorem En (m:AL)(ps:List ByteArray)(n:ByteArray)(h:(kG m n).size≤4000):(usR m ps n).length≤4001:=by
 unfold usR usT
 split
 · simp
 · have h1:=pK (jf (kG m n)) (nI m ps n (kG m n)) (grR (kG m n)) (eG (kG m n)).1.length
   have h2:(eG (kG m n)).1.length≤4001:=by
    unfold eG
    rw [if_neg (by omega)]
    split
    · simp
    · have:=sU (kG m n) (by omega) ((kG m n).size+1) 0 true (by omega) (by omega)
      simp only;omega
   omega
structure CW (us:ByteArray→List Us)(er:ByteArray→Int)(g:ByteArray→List ByteArray)(W:World)(m:AL)(pv:Value)(PB fm cm mp:Nat)(al:AL)(fs:List Fl)(w:World):Prop where
 ps:PS us er W m pv PB fm cm w
 map:gB w mp al
 mb:W.heap.size≤mp
 mf:mp≠fm
 mc:mp≠cm
 rows:∀f∈fs,er f.1=0∧∃(out:List ByteArray) (v:Value),eF al f.1=some v∧Graph.Found er g f.1 out∧Kd.R Kd.string 9 w W.heap.size (fun _=>True) v out∧out.length≤1000
section
variable {W:World}{files:List Fl}{ps:List ByteArray}{A Ap:Option Addr}{c cp:Nat}
theorem Ba {w w':World}{base:Nat}{v:Value}{xs:List Pr}(h:Kd.R kFl 43 w base (fun _=>True) v xs)(hk:∀(k:Nat) (cs:Array Value),w.heap[k]? =some (Obj.cells cs 43 (0,0))→w'.heap[k]? =w.heap[k]?):Kd.R kFl 43 w' base (fun _=>True) v xs:=
 Kd.fM (Kd.lJ (Kd.iJ h) (fun k ho _=>by
  obtain ⟨_,_,_,q,hq,cs,hc⟩:=ho
  obtain rfl:q=43:=by
   rcases List.mem_cons.1 hq with h|h
   · exact h
   · exact absurd (show q∈([]:List Nat) from h) (by simp)
  exact hk _ _ hc)) (fun _ _=>trivial)
theorem Bc {w w':World}{base:Nat}{v:Value}{xs:List Us}(h:Kd.R kUs 34 w base (fun _=>True) v xs)(hk:∀(k:Nat) (cs:Array Value),w.heap[k]? =some (Obj.cells cs 34 (0,0))→w'.heap[k]? =w.heap[k]?):Kd.R kUs 34 w' base (fun _=>True) v xs:=
 Kd.fM (Kd.lJ (Kd.iJ h) (fun k ho _=>by
  obtain ⟨_,_,_,q,hq,cs,hc⟩:=ho
  obtain rfl:q=34:=by
   rcases List.mem_cons.1 hq with h|h
   · exact h
   · exact absurd (show q∈([]:List Nat) from h) (by simp)
  exact hk _ _ hc)) (fun _ _=>trivial)
theorem EM {l:List Us}{u:Us}(h:u∈l)(hne:u.2.2.toList≠[]):u.2.2∈iw l:=by
 induction l with
 |nil=>simp at h
 |cons a l ih=>
  unfold iw
  rcases List.mem_cons.1 h with rfl|h
  · rw [if_neg hne];exact List.mem_cons_self ..
  · split
    · exact ih h
    · exact List.mem_cons_of_mem _ (ih h)
end
end Go.Proofs.YtolaiebjmhieiaaGreatDoor.OScan
end
section
namespace Go.Proofs.YtolaiebjmhieiaaGreatDoor.OScan
open Go.RowKit YtolaiebjmhieiaaGreatDoorW.PrintWords YtolaiebjmhieiaaGreatDoorW.PrintLast YtolaiebjmhieiaaGreatDoorW.PrintMore
open Go.Sort (putRow putCells mapBlock onCells Holds grow)
def SU {α:Type}(lt:α→α→Prop)(xs ys:List α):Prop:=ys.Pairwise lt∧∀y,y∈ys↔y∈xs
theorem Et {α:Type}{lt:α→α→Prop}(has:∀a b,lt a b→¬lt b a):∀{ys zs:List α},ys.Pairwise lt→zs.Pairwise lt→(∀y,y∈ys↔y∈zs)→ys=zs
 |[],[],_,_,_=>rfl
 |[],b::zs,_,_,h=>absurd ((h b).2 (List.mem_cons_self ..)) (by simp)
 |a::ys,[],_,_,h=>absurd ((h a).1 (List.mem_cons_self ..)) (by simp)
 |a::ys,b::zs,hy,hz,h=>by
  rw [List.pairwise_cons] at hy hz
  have hab:a=b:=by
   rcases List.mem_cons.1 ((h a).1 (List.mem_cons_self ..)) with e|e
   · exact e
   · rcases List.mem_cons.1 ((h b).2 (List.mem_cons_self ..)) with e2|e2
     · exact e2.symm
     · exact absurd (hy.1 b e2) (has _ _ (hz.1 a e))
  subst hab
  refine congrArg _ (Et has hy.2 hz.2 fun y=>⟨fun hm=> ?_,fun hm=> ?_⟩)
  · rcases List.mem_cons.1 ((h y).1 (List.mem_cons_of_mem _ hm)) with e|e
    · subst e;exact absurd (hy.1 y hm) (fun q=>has _ _ q q)
    · exact e
  · rcases List.mem_cons.1 ((h y).2 (List.mem_cons_of_mem _ hm)) with e|e
    · subst e;exact absurd (hz.1 y hm) (fun q=>has _ _ q q)
    · exact e
theorem SU.det {α:Type}{lt:α→α→Prop}(has:∀a b,lt a b→¬lt b a){xs ys zs:List α}(h:SU lt xs ys)(k:SU lt xs zs):ys=zs:=
 Et has h.1 k.1 fun y=>(h.2 y).trans (k.2 y).symm
def ltB (a b:ByteArray):Prop:=a.data.toList<b.data.toList
theorem mG (a b:ByteArray)(h:ltB a b):¬ltB b a:=fun k=>by
 have:=List.lt_trans h k
 exact List.lt_irrefl _ this
theorem tN {a b c:ByteArray}(h:ltB a b)(k:ltB b c):ltB a c:=List.lt_trans h k
theorem nT (a b:ByteArray):ltB a b∨a=b∨ltB b a:=by
 by_cases h:a.data.toList<b.data.toList
 · exact .inl h
 · by_cases k:b.data.toList<a.data.toList
   · exact .inr (.inr k)
   · refine .inr (.inl ?_)
     have:=List.le_antisymm (List.not_lt.1 k) (List.not_lt.1 h)
     exact Go.WideShapes.bytes_inj this
theorem Dz {xs ys:List ByteArray}(hp:ys.Perm xs)(hn:xs.Nodup)(hs:ys.Pairwise fun a b=>a.data.toList≤b.data.toList):SU ltB xs ys:=by
 refine ⟨?_,fun y=>hp.mem_iff⟩
 have h2:ys.Nodup:=hp.nodup_iff.2 hn
 refine List.Pairwise.imp₂ (R:=fun a b=>a.data.toList≤b.data.toList) (S:=fun a b=>a≠b) (fun a b h1 hne=> ?_) hs h2
 rcases nT a b with h|h|h
 · exact h
 · exact absurd h hne
 · exact absurd h (List.not_lt.2 h1)
theorem Jw (xs:List ByteArray)(base:Nat)(v:Value)(w:World)(HR:Kd.R Kd.string 9 w base (fun _=>True) v xs)(hl:xs.length≤1000000):
 Calls Tryz.prog 29 #[v] w fun e w'=>e= .returned (.tuple #[])∧∃ys,(ys.Perm xs∧ys.Pairwise fun a b=>a.data.toList≤b.data.toList)∧Kd.R Kd.string 9 w' base (fun _=>True) v ys∧w.heap.size≤w'.heap.size∧(∀k,k<w.heap.size→some k≠v.ownBlock→w'.heap[k]? =w.heap[k]?)∧w'.os=w.os∧w'.tape=w.tape∧w'.output=w.output:=by
 obtain ⟨h0,inner,ho,hr⟩:=HR
 have hin:inner=xs.map Value.string:=by
  have h1:=ho.1
  have h2:inner.length=xs.length:=by rw [h1];exact Nat.mul_one _
  apply List.ext_getElem?
  intro j
  rw [List.getElem?_map]
  by_cases hj:j<xs.length
  · obtain ⟨x,hx⟩:∃x,xs[j]? =some x:=⟨_,List.getElem?_eq_getElem hj⟩
    have h3:=hr.2 j x hx
    have h4:(inner.drop (j*1)).take 1=[Value.string x]:=h3
    rw [Nat.mul_one] at h4
    have h5:(inner.drop j)[0]? =some (Value.string x):=by
     have:=congrArg (fun l:List Value=>l[0]?) h4
     simpa [List.getElem?_take] using this
    rw [List.getElem?_drop,Nat.add_zero] at h5
    rw [h5,hx];rfl
  · rw [List.getElem?_eq_none (by omega),List.getElem?_eq_none (by omega)];rfl
 rcases ho with ⟨ho1,⟨rfl,hn⟩|⟨g,cap,cur,rfl,hb,hh,hc1,hc2,hc3,hc4⟩⟩
 · obtain rfl:xs=[]:=List.eq_nil_of_length_eq_zero hn
   refine (Tryz.slices_Sort_string_none none 0 w).mono ?_
   rintro e w' ⟨rfl,rfl⟩
   exact ⟨rfl,[],⟨.nil,.nil⟩,Kd.gQ _ _ _ _ _,Nat.le_refl _,fun _ _ _=>rfl,rfl,rfl,rfl⟩
 · have hs1:xs.length≤cur.size:=by rw [hc3];show xs.length≤cap*1;omega
   have hcell:∀j,j<xs.length→cur[j]? =(xs[j]?).map Value.string:=fun j hj=>by
    have h6:(cur.toList.take (xs.length*1))[j]? =inner[j]? :=by rw [←hc4];rfl
    rw [List.getElem?_take,if_pos (by omega),hin,List.getElem?_map,Array.getElem?_toList] at h6
    exact h6
   have hH:Holds encStr w g 0 (xs.map fun b=>b.data.toList).toArray:=fun j hj=>by
    simp only [List.size_toArray,List.length_map] at hj
    refine ⟨?_,aj hh _⟩
    rw [Nat.zero_add,cell_of_row w g j _ _ _ hh,hcell j hj,getElem!_pos _ j (by simpa using hj),List.getElem?_eq_getElem hj]
    simp [encStr]
   have H:=Tryz.slices_Sort_string g 0 cap (xs.map fun b=>b.data.toList) w hH (aT hh) (by rw [List.length_map];omega)
   rw [List.length_map] at H
   refine H.mono ?_
   rintro e w' ⟨rfl,m,os,rfl⟩
   have hperm:=List.mergeSort_perm (xs.map fun b=>b.data.toList) (fun x y=>decide (x≤y))
   have hsort:((xs.map fun b=>b.data.toList).mergeSort fun x y=>decide (x≤y)).Pairwise fun a b=>a≤b:=
    (List.pairwise_mergeSort (le:=fun x y:List UInt8=>decide (x≤y)) (fun a b c h k=>decide_eq_true (List.le_trans (of_decide_eq_true h) (of_decide_eq_true k))) (fun a b=>by rcases List.le_total a b with h|h<;>simp [h]) _).imp fun h=>of_decide_eq_true h
   generalize (xs.map fun b=>b.data.toList).mergeSort (fun x y=>decide (x≤y))=ss at *
   have hlen:ss.length=xs.length:=by rw [hperm.length_eq,List.length_map]
   obtain ⟨⟨cur',q1,q2,q3⟩,q4,q5,q6,q7,q8⟩:=EC encStr w g 9 cur hh ss.toArray m os (by simpa [hlen] using hs1)
   refine ⟨rfl,ss.map fun l=>⟨l.toArray⟩,⟨?_,List.pairwise_map.2 (hsort.imp fun h=>by simpa using h)⟩,?_,q5,fun k hk hne=>q4 k hk (fun e=>hne (by rw [e];rfl)),q6,q7,q8⟩
   · have:=hperm.map (fun l:List UInt8=>(⟨l.toArray⟩:ByteArray))
     rw [List.map_map] at this
     have e:((fun l:List UInt8=>(⟨l.toArray⟩:ByteArray)) ∘ fun b:ByteArray=>b.data.toList)=id:=by funext b;exact Gg b
     rw [e,List.map_id] at this
     exact this
   · have hown:(grow (putRow encStr (Go.Sort.ahead w m) g 0 ss.toArray) os).ownsRow base 9 1 (.slice (some ⟨g,0,none⟩) (ss.map fun l=>(⟨l.toArray⟩:ByteArray)).length cap) (ss.map fun l=>(⟨l.toArray⟩:ByteArray)).length ((ss.map fun l=>(⟨l.toArray⟩:ByteArray)).map Value.string):=by
      refine ⟨by simp,.inr ⟨g,cap,cur',rfl,hb,q1,by rw [List.length_map,hlen];exact hc1,hc2,by rw [q2,hc3];rfl,?_⟩⟩
      rw [List.size_toArray] at q3
      rw [List.length_map,Nat.mul_one,q3,List.map_map]
      rfl
     have h9:=Kd.mY (enc:=Value.string) (h1:=fun _=>rfl) hown (ok:=fun _=>True) (fun _ _=>trivial)
     have hl9:(ss.map fun l=>(⟨l.toArray⟩:ByteArray)).length=xs.length:=by rw [List.length_map,hlen]
     rw [hl9] at h9
     exact h9
end Go.Proofs.YtolaiebjmhieiaaGreatDoor.OScan
end
section
namespace Go.Proofs.YtolaiebjmhieiaaGreatDoor.OScan
open Go.RowKit YtolaiebjmhieiaaGreatDoorW.PrintWords YtolaiebjmhieiaaGreatDoorW.PrintLast YtolaiebjmhieiaaGreatDoorW.PrintMore
def ltP (a b:Pr):Prop:=ltB a.1 b.1∨(a.1=b.1∧ltB a.2 b.2)
def leP (a b:Pr):Prop:=ltP a b∨a=b
theorem tK (a b:Pr)(h:ltP a b):¬ltP b a:=by
 rcases h with h|⟨h1,h2⟩<;>rintro (k|⟨k1,k2⟩)
 · exact mG _ _ h k
 · rw [k1] at h;exact mG _ _ h h
 · rw [h1] at k;exact mG _ _ k k
 · exact mG _ _ h2 k2
theorem tJ {a b c:Pr}(h:ltP a b)(k:ltP b c):ltP a c:=by
 rcases h with h|⟨h1,h2⟩<;>rcases k with k|⟨k1,k2⟩
 · exact .inl (tN h k)
 · exact .inl (by rw [←k1];exact h)
 · exact .inl (by rw [h1];exact k)
 · exact .inr ⟨h1.trans k1,tN h2 k2⟩
theorem nS (a b:Pr):ltP a b∨a=b∨ltP b a:=by
 rcases nT a.1 b.1 with h|h|h
 · exact .inl (.inl h)
 · rcases nT a.2 b.2 with k|k|k
   · exact .inl (.inr ⟨h,k⟩)
   · exact .inr (.inl (Prod.ext h k))
   · exact .inr (.inr (.inr ⟨h.symm,k⟩))
 · exact .inr (.inr (.inl h))
theorem uD {ys:List Pr}(hs:ys.Pairwise leP){l:List Pr}{q:Nat}{x y:Pr}(hx:ys[q]? =some x)(hy:ys[q-1]? =some y)(hq:1≤q)(hne:x≠y)(hl:l.Pairwise ltP)(hsub:∀z∈l,∃j,j<q∧ys[j]? =some z):(l++[x]).Pairwise ltP:=by
 rw [List.pairwise_append]
 refine ⟨hl,List.pairwise_singleton _ _,fun z hz x' hx'=> ?_⟩
 obtain rfl:=List.mem_singleton.1 hx'
 obtain ⟨j,hj,hzj⟩:=hsub z hz
 have hrel:∀{a b:Nat} {p r:Pr},a<b→ys[a]? =some p→ys[b]? =some r→leP p r:=fun {a b p r} hab ha hb=>by
  obtain ⟨ha1,ha2⟩:=List.getElem?_eq_some_iff.1 ha
  obtain ⟨hb1,hb2⟩:=List.getElem?_eq_some_iff.1 hb
  have:=List.pairwise_iff_getElem.1 hs a b ha1 hb1 hab
  rwa [ha2,hb2] at this
 have hyx:ltP y x':=by
  rcases hrel (show q-1<q by omega) hy hx with h|h
  · exact h
  · exact absurd h.symm hne
 by_cases hjq:j=q-1
 · subst hjq
   rw [hy] at hzj
   obtain rfl:=Option.some.inj hzj
   exact hyx
 · rcases hrel (show j<q-1 by omega) hzj hy with h|h
   · exact tJ h hyx
   · rw [h];exact hyx
structure CJ (ys:List Pr)(k k2 kk:Nat)(dk:List Pr):Prop where
 ci:CI ys k k2 kk dk
 sub:∀z∈dk.take kk,∃j,j<k+k2∧ys[j]? =some z
 str:(dk.take kk).Pairwise ltP
theorem BF {ys:List Pr}{k:Nat}:∀z∈ys.take k,∃j,j<k∧ys[j]? =some z:=fun z hz=>by
 obtain ⟨j,hj⟩:=List.getElem?_of_mem hz
 rw [List.getElem?_take] at hj
 split at hj
 · exact ⟨j,by assumption,hj⟩
 · cases hj
theorem CJ.start {ys:List Pr}{k:Nat}(hk:1≤k)(hn:k<ys.length)(hd:ys[k]? =ys[k-1]?)(hs:(ys.take k).Pairwise ltP):CJ ys k 1 k ys:=
 ⟨CI.start hk hn hd,fun z hz=>by obtain ⟨j,h1,h2⟩:=BF z hz;exact ⟨j,by omega,h2⟩,hs⟩
theorem CJ.skip {ys dk:List Pr}{k k2 kk:Nat}(h:CJ ys k k2 kk dk)(hk:1≤k+k2)(hd:ys[k+k2]? =ys[k+k2-1]?):CJ ys k (k2+1) kk dk:=
 ⟨h.ci.skip hk hd,fun z hz=>by obtain ⟨j,h1,h2⟩:=h.sub z hz;exact ⟨j,by omega,h2⟩,h.str⟩
theorem CJ.keep {ys dk:List Pr}{k k2 kk:Nat}(h:CJ ys k k2 kk dk)(hs:ys.Pairwise leP){x y:Pr}(hx:ys[k+k2]? =some x)(hy:ys[k+k2-1]? =some y)(hk:1≤k+k2)(hne:x≠y)(hkk:kk<dk.length):CJ ys k (k2+1) (kk+1) (dk.set kk x):=by
 have ht:(dk.set kk x).take (kk+1)=dk.take kk++[x]:=by
  rw [List.take_add_one,List.take_set_of_le (Nat.le_refl _),List.getElem?_set_self hkk];rfl
 refine ⟨h.ci.keep hx hkk,?_,?_⟩
 · rw [ht]
   intro z hz
   rcases List.mem_append.1 hz with hz|hz
   · obtain ⟨j,h1,h2⟩:=h.sub z hz;exact ⟨j,by omega,h2⟩
   · obtain rfl:=List.mem_singleton.1 hz;exact ⟨k+k2,by omega,hx⟩
 · rw [ht]
   exact uD hs hx hy hk hne h.str h.sub
theorem CJ.fin {ys dk:List Pr}{k k2 kk:Nat}(h:CJ ys k k2 kk dk)(hn:ys.length=k+k2):SU ltP ys (dk.take kk):=by
 refine ⟨h.str,fun y=>⟨fun hy=> ?_,fun hy=> ?_⟩⟩
 · obtain ⟨j,_,h2⟩:=h.sub y hy;exact List.mem_of_getElem? h2
 · obtain ⟨j,hj⟩:=List.getElem?_of_mem hy
   exact h.ci.cov j y (by have:=(List.getElem?_eq_some_iff.1 hj).1;omega) hj
theorem zX {ys:List Pr}(h:ys.Pairwise ltP):SU ltP ys ys:=⟨h,fun _=>Iff.rfl⟩
theorem Cc {ys:List Pr}(h:ys.length≤1):ys.Pairwise ltP:=by
 match ys,h with
 |[],_=>exact .nil
 |[a],_=>exact List.pairwise_singleton _ _
theorem take_snoc' {α:Type}(l:List α)(i:Nat)(x:α)(h:l[i]? =some x):l.take (i+1)=l.take i++[x]:=by
 rw [List.take_add_one,h];rfl
theorem D8 (ys:List Pr)(g C cap:Nat)(w:World)(hR:jM w g C ys)(hC:ys.length*2≤C)(hcap:ys.length≤cap)(hl:ys.length≤1000000)(hsort:ys.Pairwise leP):
 Calls Tryz.prog 36 #[.slice (some ⟨g,0,none⟩) ys.length cap] w fun e w'=>∃zs:List Pr,e= .returned (.slice (some ⟨g,0,none⟩) zs.length cap)∧jM w' g C zs∧SU ltP ys zs∧zs.length≤ys.length∧gI w w' g:=by
 have HR:=z0 hR
 have HC:=z0 hC
 have HS:=z0 hsort
 obtain ⟨n,hn⟩:∃n,n=ys.length:=⟨_,rfl⟩
 rw [←hn] at hcap hl ⊢
 have HN:=z0 hn
 clear hR hC hn hsort
 by_cases h2:n<2
 · have hd:decide ((n:Int)<2)=true:=decide_eq_true (by omega)
   go_enter Tryz.func36,Tryz.ntmps36
   go_wp2_with (fail)
   go_ret
   exact ⟨ys,by rw [←HN.out];rfl,HR.out,zX (Cc (by rw [←HN.out];omega)),by rw [HN.out];exact Nat.le_refl _,gI.refl _ _⟩
 · have hd:decide ((n:Int)<2)=false:=decide_eq_false (by omega)
   go_enter Tryz.func36,Tryz.ntmps36
   go_wp2_with (fail)
   go_loopg [3] (n-1) (fun kq v3 wr=>∃k:Nat,v3= .int .i64 k∧1≤k∧ah (kq+k=n)∧ah (jM wr g C ys)∧ah (gI w wr g)∧ah ((ys.take k).Pairwise ltP))
   case atStart=>exact ⟨1,rfl,Nat.le_refl _,⟨by omega⟩,HR,⟨gI.refl _ _⟩,⟨Cc (by rw [List.length_take];omega)⟩⟩
   case round=>
    obtain ⟨k,rfl,hk1,hki,hRr,hO,hT1⟩:=hrel
    have hki':=hki.out
    cases gk with
    |zero=>
     have hlt:decide ((k:Int)<(n:Int))=false:=decide_eq_false (by omega)
     go_wp2
     go_ret
     exact ⟨ys,by rw [←HN.out];rfl,hRr.out,zX (by have h:=hT1.out;rwa [List.take_of_length_le (by rw [←HN.out];omega)] at h),by rw [HN.out];exact Nat.le_refl _,hO.out⟩
    |succ g1=>
     have hlt:decide ((k:Int)<(n:Int))=true:=decide_eq_true (by omega)
     obtain ⟨x,hx⟩:∃x,ys[k]? =some x:=⟨_,List.getElem?_eq_getElem (by rw [←HN.out];omega)⟩
     obtain ⟨y,hy⟩:∃y,ys[k-1]? =some y:=⟨_,List.getElem?_eq_getElem (by rw [←HN.out];omega)⟩
     obtain ⟨cx0,cx1⟩:=hRr.out.cell hx
     obtain ⟨cy0,cy1⟩:=hRr.out.cell hy
     have HX:=z0 (And.intro hx hy)
     clear hx hy
     obtain ⟨x1,x2⟩:=x
     obtain ⟨y1,y2⟩:=y
     simp only at cx0 cx1 cy0 cy1
     obtain ⟨p,hp⟩:∃p,p=k-1:=⟨_,rfl⟩
     rw [←hp] at cy0 cy1 HX
     have w1:IntKind.i64.wrap ((k:Int)-1)=(p:Int):=by rw [IntWalk.i64_in _ (by omega)];omega
     have w2:wrap64 ((k:Int)-1)=(p:Int):=(OScan.wr (by omega) (by omega)).trans (by omega)
     have i0:(0:Int)≤(k:Int):=by omega
     have i1:(0:Int)≤(p:Int):=by omega
     have i2:p<n:=by omega
     have i3:k<n:=by omega
     have heq:=fun w=>Ns x1 x2 y1 y2 w
     have HP:=z0 hp
     clear hp
     by_cases he:(x1.toList==y1.toList&&x2.toList==y2.toList)=true
     · rw [he] at heq
       have hdup:ah ((x1,x2)=(y1,y2)):=⟨by
        simp only [Bool.and_eq_true,beq_iff_eq,ByteArray.toList_eq] at he
        rw [Go.WideShapes.bytes_inj he.1,Go.WideShapes.bytes_inj he.2]⟩
       clear he
       go_wp2_with (fail)
       go_quiet (fail)
       have HRn:ah (jM (wr.drewN nq) g C ys∧gI w (wr.drewN nq) g):=⟨hRr.out,lZ hO.out _⟩
       clear heq cx0 cx1 cy0 cy1
       generalize wr.drewN nq=W1 at *
       go_wp2_with (fail)
       obtain ⟨m,hm⟩:∃m,m=n-k:=⟨_,rfl⟩
       obtain ⟨cm,hcm⟩:∃cm,cm=cap-k:=⟨_,rfl⟩
       rw [←hm,←hcm]
       have hm':m+k=n:=by omega
       have HM:=z0 hm'
       have HCM:=z0 hcm
       have hm1:1≤m:=by omega
       have hmc:m≤cm:=by omega
       have hkn:=i3
       have HST:ah (CJ ys k 1 k ys):=⟨CJ.start hk1 (by rw [←HN.out];exact i3) (by rw [HX.out.1,hdup.out,←HX.out.2,HP.out]) hT1.out⟩
       clear hm hcm hm' w1 w2 i1 i2 hlt HP HX hdup
       go_loopg [3,5] (m-1) (fun kq v3 v5 wr=>∃(kk k2:Nat) (dk:List Pr),v3= .int .i64 kk∧v5= .int .i64 k2∧1≤k2∧ah (kq+k2=m)∧ah (jM wr g C dk)∧ah (gI w wr g)∧ah (CJ ys k k2 kk dk))
       case atStart=>exact ⟨k,1,ys,rfl,rfl,Nat.le_refl _,⟨by omega⟩,⟨HRn.out.1⟩,⟨HRn.out.2⟩,HST⟩
       case round=>
        clear hki' hki
        obtain ⟨kk,k2,dk,rfl,rfl,hk2,hki2,hR2,hO2,hI⟩:=hrel
        have hki2':=hki2.out
        have hkm:=HM.out
        have hlt2:=hI.out.ci.lt
        have hp2:=hI.out.ci.pos
        have hlen:=hI.out.ci.len
        rw [←HN.out] at hlen
        have HLEN:=z0 hlen
        clear hlen
        cases gk with
        |zero=>
         have hlt:decide ((k2:Int)<(m:Int))=false:=decide_eq_false (by omega)
         obtain ⟨cells,hb0,hb1,hb2⟩:=hR2.out
         have hkkn:kk<n:=by omega
         have hC2:=HC.out
         rw [←HN.out] at hC2
         have hcl:∀ty,(Builtin.clear_ #[40] ty #[.slice (some ⟨g,kk*2,none⟩) (n-kk) (cap-kk)]).run Tryz.prog wr= .ok (.tuple #[]) (wr.setCells g (kk*2) (List.replicate ((n-kk)*2) (.string ⟨#[]⟩))):=fun ty=>Kw wr ty g (kk*2) (n-kk) (cap-kk) (by omega) (fun j hj=>by rw [cell_of_row wr g _ _ _ _ hb0,Array.getElem?_eq_getElem (by omega)];rfl) (fun j _=>aj hb0 _)
         obtain ⟨c1,q1,q2,q3⟩:=iT (List.replicate ((n-kk)*2) (Value.string ⟨#[]⟩)) (kk*2) wr cells hb0 (by simp;omega)
         have hof:gI w (wr.setCells g (kk*2) (List.replicate ((n-kk)*2) (Value.string ⟨#[]⟩))) g:=oO hO2.out _ _
         obtain ⟨W3,hW3⟩:∃W3,W3=wr.setCells g (kk*2) (List.replicate ((n-kk)*2) (Value.string ⟨#[]⟩)):=⟨_,rfl⟩
         rw [←hW3] at hof q1 hcl
         have HFIN:ah (jM W3 g C (dk.take kk)∧gI w W3 g):=⟨⟨c1,q1,by rw [q2];exact hb1,fun j x hx=>by
          rw [List.getElem?_take] at hx
          split at hx
          · rename_i hj
            obtain ⟨r0,r1⟩:=hb2 j x hx
            have key:∀i,i<kk*2→c1[i]? =cells[i]? :=fun i hi=>by
             rw [←Array.getElem?_toList,q3,List.append_assoc,List.getElem?_append_left (by rw [List.length_take,Array.length_toList];omega),List.getElem?_take,if_pos hi,Array.getElem?_toList]
            exact ⟨by rw [key _ (by omega)];exact r0,by rw [key _ (by omega)];exact r1⟩
          · cases hx⟩,hof⟩
         have i6:(0:Int)≤(kk:Int):=by omega
         have i7:kk≤n:=by omega
         have i8:kk≤cap:=by omega
         clear hW3 hb0 hb1 hb2 q1 q2 q3 hof hC2
         go_wp2_with (fail)
         go_ret
         have hlk:(dk.take kk).length=kk:=by rw [List.length_take,HLEN.out];omega
         exact ⟨dk.take kk,by rw [hlk];rfl,HFIN.out.1,hI.out.fin (by have:=HN.out;omega),by rw [hlk];omega,HFIN.out.2⟩
        |succ g2=>
         have hlt:decide ((k2:Int)<(m:Int))=true:=decide_eq_true (by omega)
         obtain ⟨x,hx⟩:∃x,ys[k+k2]? =some x:=⟨_,List.getElem?_eq_getElem (by rw [←HN.out];omega)⟩
         obtain ⟨y,hy⟩:∃y,ys[k+k2-1]? =some y:=⟨_,List.getElem?_eq_getElem (by rw [←HN.out];omega)⟩
         obtain ⟨cx0,cx1⟩:=hR2.out.cell ((hI.out.ci.high (k+k2) (by omega)).trans hx)
         obtain ⟨cy0,cy1⟩:=hR2.out.cell ((hI.out.ci.high (k+k2-1) (by omega)).trans hy)
         obtain ⟨z,hz⟩:∃z,dk[kk]? =some z:=⟨_,List.getElem?_eq_getElem (by rw [HLEN.out];omega)⟩
         obtain ⟨cz0,cz1⟩:=hR2.out.cell hz
         have fz0:=hR2.out.frozen (kk*2)
         have fz1:=hR2.out.frozen (kk*2+1)
         have HX:=z0 (And.intro hx hy)
         clear hx hy hz
         obtain ⟨x1,x2⟩:=x
         obtain ⟨y1,y2⟩:=y
         simp only at cx0 cx1 cy0 cy1
         obtain ⟨p,hp⟩:∃p,p=k2-1:=⟨_,rfl⟩
         rw [show (k+k2)*2=k*2+k2*2 by omega] at cx0 cx1
         rw [show (k+k2-1)*2=k*2+p*2 by omega] at cy0 cy1
         have w1:IntKind.i64.wrap ((k2:Int)-1)=(p:Int):=by rw [IntWalk.i64_in _ (by omega)];omega
         have w2:wrap64 ((k2:Int)-1)=(p:Int):=(OScan.wr (by omega) (by omega)).trans (by omega)
         have j0:(0:Int)≤(k2:Int):=by omega
         have j1:(0:Int)≤(p:Int):=by omega
         have j2:p<m:=by omega
         have j3:k2<m:=by omega
         have j4:kk<n:=by omega
         have j5:(0:Int)≤(kk:Int):=by omega
         have heq:=fun w=>Nk x1 x2 y1 y2 w
         have HP:=z0 hp
         clear hp
         by_cases he:(x1.toList==y1.toList&&x2.toList==y2.toList)=true
         · rw [he] at heq
           have hdup:ah ((x1,x2)=(y1,y2)):=⟨by
            simp only [Bool.and_eq_true,beq_iff_eq,ByteArray.toList_eq] at he
            rw [Go.WideShapes.bytes_inj he.1,Go.WideShapes.bytes_inj he.2]⟩
           simp only [Bool.not_true] at heq
           clear he
           go_wp2_with (fail)
           go_quiet (fail)
           have HRn:ah (jM (wr.drewN nq) g C dk∧gI w (wr.drewN nq) g):=⟨hR2.out,lZ hO2.out _⟩
           clear heq cx0 cx1 cy0 cy1 cz0 cz1 fz0 fz1
           generalize wr.drewN nq=W2 at *
           go_wp2_with (fail)
           go_roundg g2
           case measure=>omega
           case rel=>exact ⟨kk,k2+1,dk,(by (try simp)),(by (try simp)),by omega,⟨by omega⟩,⟨HRn.out.1⟩,⟨HRn.out.2⟩,⟨hI.out.skip (by omega) (by rw [HX.out.1,HX.out.2,hdup.out])⟩⟩
         · have he':(x1.toList==y1.toList&&x2.toList==y2.toList)=false:=by simpa using he
           rw [he'] at heq
           simp only [Bool.not_false] at heq
           have HNE:ah ((x1,x2)≠(y1,y2)):=⟨fun e=>he (by obtain ⟨e1,e2⟩:=Prod.ext_iff.1 e;simp only at e1 e2;rw [e1,e2];simp)⟩
           clear he he'
           go_wp2_with (fail)
           go_quiet (fail)
           have HRn:ah (jM (wr.drewN nq) g C dk∧gI w (wr.drewN nq) g):=⟨hR2.out,lZ hO2.out _⟩
           have cx0':(wr.drewN nq).cell? ⟨g,k*2+k2*2,none⟩=some (.string x1):=cx0
           have cx1':(wr.drewN nq).cell? ⟨g,k*2+k2*2+1,none⟩=some (.string x2):=cx1
           have cz0':(wr.drewN nq).cell? ⟨g,kk*2,none⟩=some (.string z.1):=cz0
           have cz1':(wr.drewN nq).cell? ⟨g,kk*2+1,none⟩=some (.string z.2):=cz1
           have fz0':(wr.drewN nq).frozen? ⟨g,kk*2,none⟩=false:=fz0
           have fz1':(wr.drewN nq).frozen? ⟨g,kk*2+1,none⟩=false:=fz1
           clear heq cx0 cx1 cy0 cy1 cz0 cz1 fz0 fz1
           generalize wr.drewN nq=W2 at *
           go_wp2_with (fail)
           go_roundg g2
           case measure=>omega
           case rel=>exact ⟨kk+1,k2+1,dk.set kk (x1,x2),(by (try simp)),(by (try simp)),by omega,⟨by omega⟩,⟨HRn.out.1.set kk (x1,x2)⟩,⟨mQ (mQ HRn.out.2 _ _) _ _⟩,⟨hI.out.keep HS.out HX.out.1 HX.out.2 (by omega) HNE.out (by rw [HLEN.out];omega)⟩⟩
     · have he':(x1.toList==y1.toList&&x2.toList==y2.toList)=false:=by simpa using he
       rw [he'] at heq
       have HNE:ah ((x1,x2)≠(y1,y2)):=⟨fun e=>he (by obtain ⟨e1,e2⟩:=Prod.ext_iff.1 e;simp only at e1 e2;rw [e1,e2];simp)⟩
       clear he he'
       go_wp2_with (fail)
       go_quiet (fail)
       have HRn:ah (jM (wr.drewN nq) g C ys∧gI w (wr.drewN nq) g):=⟨hRr.out,lZ hO.out _⟩
       clear heq cx0 cx1 cy0 cy1
       generalize wr.drewN nq=W1 at *
       go_wp2_with (fail)
       go_roundg g1
       case measure=>omega
       case rel=>exact ⟨k+1,by (try simp),by omega,⟨by omega⟩,⟨HRn.out.1⟩,⟨HRn.out.2⟩,⟨by rw [take_snoc' ys k _ HX.out.1];exact uD HS.out HX.out.1 (by rw [←HP.out];exact HX.out.2) hk1 HNE.out hT1.out BF⟩⟩
end Go.Proofs.YtolaiebjmhieiaaGreatDoor.OScan
end
