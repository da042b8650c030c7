/- Parts of the proof of HeadUses; no condition. -/
import Derived.Test.YtolaiebjmhieiaaGreatDoorM09
import Derived.Test.YtolaiebjmhieiaaGreatDoorM08
import Derived.Test.YtolaiebjmhieiaaGreatDoorM01
import Derived.Test.YtolaiebjmhieiaaGreatDoorM04
set_option maxHeartbeats 8000000
set_option maxRecDepth 100000
set_option linter.unusedVariables false
set_option linter.unusedSimpArgs false
section
namespace Go.Proofs.YtolaiebjmhieiaaGreatDoor.OScan
open Go.RowKit YtolaiebjmhieiaaGreatDoorW.PrintWords YtolaiebjmhieiaaGreatDoorW.PrintLast YtolaiebjmhieiaaGreatDoorW.PrintMore
def fsOf:List Us→List ByteArray
 |[]=>[]
 |u::l=>if u.2.2.toList=[] then fsOf l else u.2.2::fsOf l
theorem fsOf_mem:∀{l:List Us} {y:ByteArray},y∈fsOf l→∃u∈l,u.2.2=y∧y.toList≠[]
 |u::l,y,h=>by
  unfold fsOf at h
  split at h
  · obtain ⟨u',h1,h2⟩:=fsOf_mem h
    exact ⟨u',List.mem_cons_of_mem _ h1,h2⟩
  · rename_i hne
    rcases List.mem_cons.1 h with rfl|h
    · exact ⟨u,List.mem_cons_self ..,rfl,hne⟩
    · obtain ⟨u',h1,h2⟩:=fsOf_mem h
      exact ⟨u',List.mem_cons_of_mem _ h1,h2⟩
theorem us_at {w:World}{A:Option Addr}{n:Nat}{xs:List Us}(h:Kd.C kUs w A n xs)(i:Nat)(h1:i<n)(x:Us)(hx:xs[i]? =some x):∃ad,A=some ad∧w.cell? (ad.add (i*3))=some (.string x.1)∧w.cell? ⟨(ad.add (i*3)).block,(ad.add (i*3)).off+1,none⟩=some (.bool x.2.1)∧w.cell? ⟨(ad.add (i*3)).block,(ad.add (i*3)).off+2,none⟩=some (.string x.2.2):=by
 obtain ⟨ad,c,e,_,hK,hc0⟩:=Kd.C_get h x i (by omega) (by omega)
 have hxi:xs.getD (i:Int).toNat x=x:=by simp [List.getD_eq_getElem?_getD,hx]
 rw [hxi] at hK
 have hc:∀j u,c[j]? =some u→w.cell? (ad.add (i*3+j))=some u:=hc0
 obtain ⟨_,_,rfl,rfl,⟨_,_,rfl,rfl,rfl⟩⟩:=hK
 exact ⟨ad,e,hc 0 _ rfl,by rw [←add_field _ _ 1 (by omega)];exact hc 1 _ rfl,by rw [←add_field _ _ 2 (by omega)];exact hc 2 _ rfl⟩
section
variable {us:ByteArray→List Us}{er:ByteArray→Int}{w0:World}{m:AL}{pv:Value}{PB fm cm:Nat}{I:Ids}
def WalkQ (us:ByteArray→List Us)(er:ByteArray→Int)(w0:World)(m:AL)(pv:Value)(PB fm cm:Nat)(I:Ids)(name:ByteArray)(met out:List ByteArray)(v:Value)(w:World)(e:Ending)(w':World):Prop:=
 ∃(er':Int) (met' out':List ByteArray) (v':Value),e= .returned (.int .i64 er')∧Graph.Walk er (fun n=>fsOf (us n)) name met out er' met' out'∧WS us er w0 m pv PB fm cm I w' v' met' out'∧WF cm I w v w' v'
def ReadC (us:ByteArray→List Us)(er:ByteArray→Int)(w0:World)(m:AL)(pv:Value)(PB fm cm:Nat)(n:ByteArray):Prop:=
 ∀(W:World),PS us er w0 m pv PB fm cm W→Calls Tryz.prog 21 #[.pointer (some ⟨PB,0,none⟩),.string n] W fun e w'=>∃rb,e= .returned (.pointer (some ⟨rb,0,none⟩))∧RdIs w0.heap.size w' rb (us n) (er n)∧PS us er w0 m pv PB fm cm w'∧W.heap.size≤w'.heap.size∧∀k,k<W.heap.size→k≠cm→w'.heap[k]? =W.heap[k]?
theorem walk_met (name:ByteArray)(met out:List ByteArray)(v:Value)(w:World)(hm:name∈met)(S:WS us er w0 m pv PB fm cm I w v met out):
 Calls Tryz.prog 52 #[.string name,.pointer (some ⟨I.MC,0,none⟩),.pointer (some ⟨I.PC,0,none⟩),.pointer (some ⟨I.OC,0,none⟩),.pointer (some ⟨I.WC,0,none⟩)] w (WalkQ us er w0 m pv PB fm cm I name met out v w):=by
 have hB:=below_alloc (Below.refl w.heap.size w) (Obj.cells #[Value.string name] 9)
 have S1:=S.step hB
 obtain ⟨al,hM,hal⟩:=S1.mm
 have hlk:=hM.get Tryz.underlying112 name (.bool false) (fun _=>rfl)
 rw [(hal name).1 hm] at hlk
 simp only [Option.getD_some] at hlk
 have c1:(w.alloc (Obj.cells #[Value.string name] 9)).cell? ⟨I.MC,0,none⟩=some (.map (some I.mm)):=by have:=cell_of_row _ I.MC 0 _ _ _ S1.mc;simpa using this
 have c2:(w.alloc (Obj.cells #[Value.string name] 9)).cell? ⟨w.heap.size,0,none⟩=some (.string name):=by have:=cell_of_row (w.alloc (Obj.cells #[Value.string name] 9)) w.heap.size 0 _ _ _ (blk_new _ _);simp
 have HS:=z0 S1
 have HB:=z0 hB
 have HM:=z0 hm
 clear S S1 hB hM hal hm
 go_enter_defers Tryz.func52,Tryz.ntmps52
 go_wp2_with (fail)
 exact ⟨_,results_tmp rfl _ _ _,0,met,out,v,rfl,.met HM.out,HS.out,WF.of_below HB.out⟩
theorem walk_bad (name:ByteArray)(met out:List ByteArray)(v:Value)(w:World)(hm:name∉met)(he:er name≠0)(hR:ReadC us er w0 m pv PB fm cm name)(S:WS us er w0 m pv PB fm cm I w v met out):
 Calls Tryz.prog 52 #[.string name,.pointer (some ⟨I.MC,0,none⟩),.pointer (some ⟨I.PC,0,none⟩),.pointer (some ⟨I.OC,0,none⟩),.pointer (some ⟨I.WC,0,none⟩)] w (WalkQ us er w0 m pv PB fm cm I name met out v w):=by
 have hB:=below_alloc (Below.refl w.heap.size w) (Obj.cells #[Value.string name] 9)
 have S1:=S.step hB
 obtain ⟨al,hM,hal⟩:=S1.mm
 have hlk:=hM.get Tryz.underlying112 name (.bool false) (fun _=>rfl)
 rw [(hal name).2 hm] at hlk
 simp only [Option.getD_none] at hlk
 have c1:(w.alloc (Obj.cells #[Value.string name] 9)).cell? ⟨I.MC,0,none⟩=some (.map (some I.mm)):=by have:=cell_of_row _ I.MC 0 _ _ _ S1.mc;simpa using this
 have c2:(w.alloc (Obj.cells #[Value.string name] 9)).cell? ⟨w.heap.size,0,none⟩=some (.string name):=by have:=cell_of_row (w.alloc (Obj.cells #[Value.string name] 9)) w.heap.size 0 _ _ _ (blk_new _ _);simp
 obtain ⟨W2,hrun,hM2,hO2⟩:=hM.put (mt:=112) (e:=4) Tryz.underlying112 name (.bool true)
 have S2:=S1.put name al hal hM2 hO2
 have hmm:=hM.lt
 have hNB:w.heap.size≠I.mm:=fun e=>by
  obtain ⟨_,⟨es,cl,h4,_⟩,_⟩:=S.mm
  have:=OScan.heap_lt h4
  omega
 have n2:=(hO2.block w.heap.size hNB).trans (blk_new w (Obj.cells #[Value.string name] 9))
 have d1:W2.cell? ⟨I.PC,0,none⟩=some (.pointer (some ⟨PB,0,none⟩)):=by have:=cell_of_row _ I.PC 0 _ _ _ S2.pc;simpa using this
 have d2:W2.cell? ⟨w.heap.size,0,none⟩=some (.string name):=by have:=cell_of_row _ w.heap.size 0 _ _ _ n2;simpa using this
 have H21:=hR W2 S2.ps
 have F2:WF cm I w v W2 v:=(WF.of_below hB).trans (WF.put hO2)
 have er0:(er name !=0)=true:=by simpa using he
 have HS:=z0 S2
 have HF:=z0 F2
 have HM:=z0 (And.intro hm he)
 generalize her:er name=ern at H21 er0
 have HER:=z0 her
 clear S S1 S2 hB hM hal hm he hM2 hO2 n2 F2 hmm hNB hR her
 go_enter_defers Tryz.func52,Tryz.ntmps52
 go_wp2_with (go_at_call 21;go_loud (refine H21.mono ?_;rintro e w3 ⟨rb,rfl,hrd,hps,hsz,hkp⟩;obtain ⟨vl,vu,hrb,hus⟩:=hrd.2;have r2:w3.cell? ⟨rb,2,none⟩=some (.int .i64 ern):=(by have:=cell_of_row _ rb 2 _ _ _ hrb;simpa using this);have HS3:=z0 (HS.out.read hps hsz hkp);have HF3:=z0 (HF.out.trans (WF.read hsz hkp));clear hrd hps hsz hkp hrb hus))
 refine ⟨_,results_tmp rfl _ _ _,ern,name::met,out,v,rfl,?_,HS3.out,HF3.out⟩
 rw [←HER.out]
 exact .bad HM.out.1 HM.out.2
end
section
variable {us:ByteArray→List Us}{er:ByteArray→Int}{w0:World}{m:AL}{pv:Value}{PB fm cm:Nat}{I:Ids}
theorem walk_door (name:ByteArray)(met out met1 out1:List ByteArray)(v v1:Value)(w W1 wr:World)(NB:Nat)(e:Int)(S:WS us er w0 m pv PB fm cm I wr v1 met1 out1)(hN:wr.heap[NB]? =some (.cells #[.string name] 9 (0,0)))(hF:WF cm I w v W1 v)(F:WF cm I W1 v wr v1)(hl:out1.length≤1000)(hw:Graph.Walks er (fun n=>fsOf (us n)) (fsOf (us name)) (name::met) out e met1 out1)(hm:name∉met)(he:er name=0)(u:FrameMode):
 CallsD Tryz.prog 53 #[.pointer (some ⟨I.OC,0,none⟩),.pointer (some ⟨NB,0,none⟩)] u wr fun e' u' w'=>u'=u∧(e'= .returned (.tuple #[])∧∃(met' out':List ByteArray) (v':Value),Graph.Walk er (fun n=>fsOf (us n)) name met out e met' out'∧WS us er w0 m pv PB fm cm I w' v' met' out'∧WF cm I w v w' v'):=by
 have hOC:=S.oc
 have hoc:=blk_lt hOC
 have hbo:=S.bo
 have hb0:=S.b0
 refine (app_deferred I.OC NB I.bA u wr v1 out1 name hOC hN S.out (by omega) hl).mono ?_
 rintro e' u' w' ⟨rfl,rfl,v',h1,h2,h3,h4,h5,h6,h7,h8⟩
 have F':WF cm I wr v1 w' v':=⟨h3,fun k k1 _ _ k4 k5=>h4 k k1 k4 k5,h5⟩
 have far:∀{k t:Nat} {cs:Array Value},wr.heap[k]? =some (.cells cs t (0,0))→t≠23→t≠9→w'.heap[k]? =wr.heap[k]? :=fun {k t cs} h ht ht9=>h4 k (blk_lt h) (by
  rintro rfl
  rw [hOC] at h
  injection h with h
  injection h with _ h
  exact ht h.symm) (Kd.R_ne S.out h (by omega))
 have hown:∀k,v1.ownBlock=some k→∃cells,wr.heap[k]? =some (.cells cells 9 (0,0)):=Kd.R_typed S.out
 have hbase:∀k,some k=v1.ownBlock→I.bA≤k:=fun k hk=>by
  obtain ⟨inner,ho⟩:=Kd.R_own S.out
  exact own_base ho k hk.symm
 have mapfar:∀{k:Nat} {es:Array MapEntry} {cl:Nat},wr.heap[k]? =some (.map es cl)→w'.heap[k]? =wr.heap[k]? :=fun {k es cl} h=>h4 k (heap_lt h) (by
  rintro rfl
  rw [hOC] at h
  cases h) (by
  intro hk
  obtain ⟨cells,hc⟩:=hown k hk.symm
  rw [h] at hc
  cases hc)
 obtain ⟨al,hM,hal⟩:=S.mm
 obtain ⟨c,hP,hC⟩:=S.ps.prj
 have hmmf:w'.heap[I.mm]? =wr.heap[I.mm]? :=by obtain ⟨es,cl,h,_⟩:=hM;exact mapfar h
 refine ⟨rfl,rfl,met1,out1++[name],v',.go hm he hw,⟨S.ps.kept ⟨by rw [h6];exact S.ps.below.os,by rw [h7];exact S.ps.below.tape,by rw [h8];exact S.ps.below.output,by have:=S.ps.below.size;omega,fun k hk=> ?_⟩ (fun k hk=> ?_),(far S.mc (by decide) (by decide)).trans S.mc,(far S.pc (by decide) (by decide)).trans S.pc,h1,(far S.wc (by decide) (by decide)).trans S.wc,⟨al,hM.same hmmf,hal⟩,h2,S.b0,S.bo,S.bm,S.nf,S.nc⟩,(hF.trans F).trans F'⟩
 · refine (h4 k (by have:=S.ps.below.size;omega) (by omega) ?_).trans (S.ps.below.block k hk)
   intro hk2
   have:=hbase k hk2
   omega
 · rcases hk with rfl|rfl|rfl|⟨cs,h|h⟩
   · exact far hP.hP (by decide) (by decide)
   · obtain ⟨es,cl,h,_⟩:=hP.hm;exact mapfar h
   · obtain ⟨es,cl,h,_⟩:=hP.hc;exact mapfar h
   · exact far h (by decide) (by decide)
   · exact far h (by decide) (by decide)
theorem walk_new (k:Nat)(names:List ByteArray)(name:ByteArray)(met out:List ByteArray)(v:Value)(w:World)(hm:name∉met)(he:er name=0)(hn:name∈names)
 (huF:∀u∈us name,u.2.2.toList≠[]→(alGet m u.2.2).isSome=true) (hul:(us name).length≤1000000) (hk:Graph.left names met≤k+1) (hl:out.length+Graph.left names met≤1000)
 (hlen:∀(n:ByteArray) (met out:List ByteArray) (e:Int) (met' out':List ByteArray),Graph.Walk er (fun n=>fsOf (us n)) n met out e met' out'→n∈names→(∀x∈met,x∈met')∧out'.length+Graph.left names met'≤out.length+Graph.left names met)
 (hnm:∀n,(alGet m n).isSome=true→n∈names)
 (hIH:∀(name:ByteArray) (met out:List ByteArray) (v:Value) (w:World),(alGet m name).isSome=true→Graph.left names met≤k→out.length+Graph.left names met≤1000→WS us er w0 m pv PB fm cm I w v met out→Calls Tryz.prog 52 #[.string name,.pointer (some ⟨I.MC,0,none⟩),.pointer (some ⟨I.PC,0,none⟩),.pointer (some ⟨I.OC,0,none⟩),.pointer (some ⟨I.WC,0,none⟩)] w (WalkQ us er w0 m pv PB fm cm I name met out v w))
 (hR:ReadC us er w0 m pv PB fm cm name) (S:WS us er w0 m pv PB fm cm I w v met out):
 Calls Tryz.prog 52 #[.string name,.pointer (some ⟨I.MC,0,none⟩),.pointer (some ⟨I.PC,0,none⟩),.pointer (some ⟨I.OC,0,none⟩),.pointer (some ⟨I.WC,0,none⟩)] w (WalkQ us er w0 m pv PB fm cm I name met out v w):=by
 have hmf:∀(fn:Fn) (first cap:Array Value) (w:World),(Instr.makeFunc fn first cap).run Tryz.prog w= .ok (.func fn first cap) w:=fun _ _ _ _=>rfl
 have hB:=below_alloc (Below.refl w.heap.size w) (Obj.cells #[Value.string name] 9)
 have S1:=S.step hB
 obtain ⟨al,hM,hal⟩:=S1.mm
 have hlk:=hM.get Tryz.underlying112 name (.bool false) (fun _=>rfl)
 rw [(hal name).2 hm] at hlk
 simp only [Option.getD_none] at hlk
 have c1:(w.alloc (Obj.cells #[Value.string name] 9)).cell? ⟨I.MC,0,none⟩=some (.map (some I.mm)):=by have:=cell_of_row _ I.MC 0 _ _ _ S1.mc;simpa using this
 have c2:(w.alloc (Obj.cells #[Value.string name] 9)).cell? ⟨w.heap.size,0,none⟩=some (.string name):=by have:=cell_of_row (w.alloc (Obj.cells #[Value.string name] 9)) w.heap.size 0 _ _ _ (blk_new _ _);simp
 obtain ⟨W2,hrun,hM2,hO2⟩:=hM.put (mt:=112) (e:=4) Tryz.underlying112 name (.bool true)
 have S2:=S1.put name al hal hM2 hO2
 have hmm:=hM.lt
 have hNB:w.heap.size≠I.mm:=fun e=>by
  obtain ⟨_,⟨es,cl,h4,_⟩,_⟩:=S.mm
  have:=OScan.heap_lt h4
  omega
 have hNC:w.heap.size≠cm:=fun e=>by
  obtain ⟨c,hP,_⟩:=S.ps.prj
  have:=hP.hc.lt
  omega
 have hNO:w.heap.size≠I.OC:=fun e=>by
  have:=blk_lt S.oc
  omega
 have hNV:some w.heap.size≠v.ownBlock:=fun e=>by
  have:=Kd.R_lt S.out _ e.symm
  omega
 have n2:=(hO2.block w.heap.size hNB).trans (blk_new w (Obj.cells #[Value.string name] 9))
 have d1:W2.cell? ⟨I.PC,0,none⟩=some (.pointer (some ⟨PB,0,none⟩)):=by have:=cell_of_row _ I.PC 0 _ _ _ S2.pc;simpa using this
 have d2:W2.cell? ⟨w.heap.size,0,none⟩=some (.string name):=by have:=cell_of_row _ w.heap.size 0 _ _ _ n2;simpa using this
 have H21:=hR W2 S2.ps
 have F1:WF cm I w v W2 v:=(WF.of_below hB).trans (WF.put hO2)
 have hc2:=Graph.left_cons hn hm
 have HS:=z0 S2
 have HF:=z0 F1
 have HM:=z0 (And.intro hm he)
 have HNB:=z0 (And.intro hNC (And.intro hNB (And.intro hNO hNV)))
 have HN2:=z0 n2
 have HLL:=z0 (show Graph.left names (name::met)≤k∧out.length+Graph.left names (name::met)≤999 by omega)
 have HUF:=z0 huF
 have HUL:=z0 hul
 have HLEN:=z0 hlen
 have HNM:=z0 hnm
 have HIH:=z0 hIH
 rw [he] at H21
 obtain ⟨NB,hNBe⟩:∃NB,NB=w.heap.size:=⟨_,rfl⟩
 clear S S1 S2 hB hM hal hm he hM2 hO2 n2 F1 hmm hNB hNC hNO hNV hR hc2 hk hl huF hul hlen hnm hIH hn
 have HNBe:=z0 hNBe
 clear hNBe
 obtain ⟨l,hlus⟩:∃l,l=us name:=⟨_,rfl⟩
 rw [←hlus] at H21 HUF HUL
 have HUS:=z0 hlus
 clear hlus
 obtain ⟨L,hL⟩:∃L,L=l.length:=⟨_,rfl⟩
 rw [←hL] at HUL
 have HLE:=z0 hL
 clear hL
 go_enter_defers Tryz.func52,Tryz.ntmps52
 go_wp2_with (go_at_call 21;go_loud (refine H21.mono ?_;rintro e w3 ⟨rb,rfl,hrd,hps,hsz,hkp⟩;obtain ⟨vl,vu,hrb,hus⟩:=hrd.2;obtain ⟨Au,cu,rfl⟩:=Kd.R_slice hus;rw [←HLE.out] at hrb hus;have r2:w3.cell? ⟨rb,2,none⟩=some (.int .i64 0):=(by have:=cell_of_row _ rb 2 _ _ _ hrb;simpa using this);have r1:w3.cell? ⟨rb,1,none⟩=some (.slice Au L cu):=(by have:=cell_of_row _ rb 1 _ _ _ hrb;simpa using this);have HS3:=z0 (HS.out.read hps hsz hkp);have HF3:=z0 (HF.out.trans (WF.read hsz hkp));have HN3:Aside0 (w3.heap[w.heap.size]? =some (.cells #[.string name] 9 (0,0))):=⟨(hkp _ (blk_lt HN2.out) HNB.out.1).trans HN2.out⟩;have HU3:=z0 hus;clear hrd hps hsz hkp hrb hus))
 clear H21 hrun hlk c1 c2 d1 d2 r2 r1
 have HN3':Aside0 (w3.heap[NB]? =some (.cells #[.string name] 9 (0,0))∧NB≠cm∧NB≠I.mm∧NB≠I.OC∧some NB≠v.ownBlock):=⟨by rw [HNBe.out];exact ⟨HN3.out,HNB.out⟩⟩
 rw [←HNBe.out]
 clear HN3 HNB
 go_loopg [34] L (fun kq v34 w'=>∃(i:Nat) (met1 out1:List ByteArray) (v1:Value),v34= .int .i64 i∧Aside0 (kq+i=L)∧Aside0 (WS us er w0 m pv PB fm cm I w' v1 met1 out1)∧Aside0 (WF cm I w3 v w' v1)∧Aside0 (∀e m' o',Graph.Walks er (fun n=>fsOf (us n)) (fsOf (l.drop i)) met1 out1 e m' o'→Graph.Walks er (fun n=>fsOf (us n)) (fsOf l) (name::met) out e m' o')∧Aside0 (Graph.left names met1≤k∧out1.length+Graph.left names met1≤999)∧Aside0 (∀(j:Nat) (cs:Array Value),w3.heap[j]? =some (Obj.cells cs 34 (0,0))→w'.heap[j]? =w3.heap[j]?))
 case atStart=>exact ⟨0,name::met,out,v,rfl,⟨rfl⟩,HS3,⟨WF.of_below (Below.refl _ _)⟩,⟨fun _ _ _ h=>h⟩,HLL,⟨fun _ _ _=>rfl⟩⟩
 case round=>
  obtain ⟨i,met1,out1,v1,rfl,hki,hS,hFr,hWs,hLb,hK34⟩:=hrel
  have hki':=hki.out
  have hNr:Aside0 (wr.heap[NB]? =some (.cells #[.string name] 9 (0,0))):=⟨(hFr.out.keep NB (blk_lt HN3'.out.1) HN3'.out.2.1 HN3'.out.2.2.1 HN3'.out.2.2.2.1 HN3'.out.2.2.2.2).trans HN3'.out.1⟩
  cases gk with
  |zero=>
   have hlt:decide ((i:Int)<(L:Int))=false:=decide_eq_false (by omega)
   go_wp2
   refine leaves_cons (f:=53) (args:= #[.pointer (some ⟨I.OC,0,none⟩),.pointer (some ⟨NB,0,none⟩)]) (by simp) (by simp [go_sem]) ?_
   have hwk:Graph.Walks er (fun n=>fsOf (us n)) (fsOf (us name)) (name::met) out 0 met1 out1:=by
    rw [←HUS.out]
    refine hWs.out 0 met1 out1 ?_
    rw [List.drop_eq_nil_of_le (by rw [←HLE.out];omega)]
    exact .nil
   refine (walk_door name met out met1 out1 v v1 w w3 wr NB 0 hS.out hNr.out HF3.out hFr.out (by have:=hLb.out.2;omega) hwk HM.out.1 HM.out.2 .returning).mono ?_
   rintro e u' w'' ⟨rfl,rfl,met',out',v',hw,hs,hf⟩
   exact ⟨_,results_tmp rfl _ _ _,0,met',out',v',rfl,hw,hs,hf⟩
  |succ g1=>
   have hlt:decide ((i:Int)<(L:Int))=true:=decide_eq_true (by omega)
   have hii:(0:Int)≤(i:Int):=by omega
   have hLu:=HUL.out
   obtain ⟨x,hx⟩:∃x,l[i]? =some x:=⟨_,List.getElem?_eq_getElem (by rw [←HLE.out];omega)⟩
   have HUr:Kd.R kUs 34 wr w0.heap.size (fun _=>True) (.slice Au L cu) l:=Kd.R_mono (Kd.R_step (Kd.R_bound HU3.out) (fun k ho _=>by
    obtain ⟨_,_,_,q,hq,cs,hc⟩:=ho
    obtain rfl:q=34:=by
     rcases List.mem_cons.1 hq with h|h
     · exact h
     · exact absurd (show q∈([]:List Nat) from h) (by simp)
    exact hK34.out _ _ hc)) (fun _ _=>trivial)
   obtain ⟨ad,hAd,hx0,hx1,hx2⟩:=us_at (Kd.R_reads' HUr).2.2 i (by rw [←HLE.out];omega) x hx
   obtain rfl:=hAd
   have hdr:l.drop i=x::l.drop (i+1):=by
    obtain ⟨hl',he'⟩:=List.getElem?_eq_some_iff.1 hx
    rw [List.drop_eq_getElem_cons hl',he']
   have hxm:=List.mem_of_getElem? hx
   obtain ⟨un,uq,uf⟩:=x
   simp only at hx0 hx1 hx2
   have hB4:=below_alloc (Below.refl wr.heap.size wr) (Obj.cells #[Value.string un,Value.bool uq,Value.string uf] 34)
   have S4:=hS.out.step hB4
   have HB4:=z0 hB4
   have k4:(wr.alloc (Obj.cells #[Value.string un,Value.bool uq,Value.string uf] 34)).cell? ⟨I.WC,0,none⟩=some (.func (.func 52) #[] #[.pointer (some ⟨I.MC,0,none⟩),.pointer (some ⟨I.PC,0,none⟩),.pointer (some ⟨I.OC,0,none⟩),.pointer (some ⟨I.WC,0,none⟩)]):=by have:=cell_of_row _ I.WC 0 _ _ _ S4.wc;simpa [walkV] using this
   by_cases huf:uf.toList=[]
   · have e1:(uf.toList==([]:List UInt8))=true:=by rw [huf];rfl
     have hfs:fsOf (l.drop i)=fsOf (l.drop (i+1)):=by rw [hdr,fsOf,if_pos huf]
     have HFS:=z0 hfs
     clear hx hxm hdr HUr huf hB4 S4 hfs k4
     go_wp2
     obtain ⟨We,hWe⟩:∃We,We=wr.alloc (Obj.cells #[Value.string un,Value.bool uq,Value.string uf] 34):=⟨_,rfl⟩
     rw [←hWe] at HB4 ⊢
     clear hWe
     go_roundg g1
     case measure=>omega
     case rel=>exact ⟨i+1,met1,out1,v1,by (try simp),⟨by omega⟩,⟨hS.out.step HB4.out⟩,⟨hFr.out.trans (WF.of_below HB4.out)⟩,⟨by rw [←HFS.out];exact hWs.out⟩,hLb,⟨fun j cs h=>(HB4.out.block j (Nat.lt_of_lt_of_le (blk_lt h) hFr.out.size)).trans (hK34.out j cs h)⟩⟩
   · have e1:(uf.toList==([]:List UInt8))=false:=beq_eq_false_iff_ne.mpr huf
     have hsome:=HUF.out _ hxm huf
     have hfs:fsOf (l.drop i)=uf::fsOf (l.drop (i+1)):=by rw [hdr,fsOf,if_neg huf]
     have H52:=HIH.out uf met1 out1 v1 _ hsome hLb.out.1 (by have:=hLb.out.2;omega) S4
     have HFS:=z0 hfs
     have HSO:=z0 hsome
     clear hx hxm hdr HUr huf hB4 S4 hfs hsome
     go_wp2_with (go_at_call 52;go_loud (refine H52.mono ?_;rintro e w5 ⟨er5,met5,out5,v5,rfl,hw5,hs5,hf5⟩;have HW5:=z0 hw5;have HS5:=z0 hs5;have HF5:=z0 hf5;clear hw5 hs5 hf5))
     · rename_i h5
       have h5':er5≠0:=by simpa using h5
       have hwk:Graph.Walks er (fun n=>fsOf (us n)) (fsOf (us name)) (name::met) out er5 met5 out5:=by
        rw [←HUS.out]
        refine hWs.out er5 met5 out5 ?_
        rw [HFS.out]
        exact .err HW5.out h5'
       have F5:WF cm I w3 v w5 v5:=(hFr.out.trans (WF.of_below HB4.out)).trans HF5.out
       have hNr5:w5.heap[NB]? =some (.cells #[.string name] 9 (0,0)):=(F5.keep NB (blk_lt HN3'.out.1) HN3'.out.2.1 HN3'.out.2.2.1 HN3'.out.2.2.2.1 HN3'.out.2.2.2.2).trans HN3'.out.1
       have hln:=(HLEN.out _ _ _ _ _ _ HW5.out (HNM.out _ HSO.out)).2
       refine leaves_cons (f:=53) (args:= #[.pointer (some ⟨I.OC,0,none⟩),.pointer (some ⟨NB,0,none⟩)]) (by simp) (by simp [go_sem]) ?_
       refine (walk_door name met out met5 out5 v v5 w w3 w5 NB er5 HS5.out hNr5 HF3.out F5 (by have:=hLb.out.2;omega) hwk HM.out.1 HM.out.2 .returning).mono ?_
       rintro e u' w'' ⟨rfl,rfl,met',out',v',hw,hs,hf⟩
       exact ⟨_,results_tmp rfl _ _ _,er5,met',out',v',rfl,hw,hs,hf⟩
     · rename_i h5
       have h5':er5=0:=by simpa using h5
       subst h5'
       have hln:=HLEN.out _ _ _ _ _ _ HW5.out (HNM.out _ HSO.out)
       have hmono:=Graph.left_mono (names:=names) hln.1
       go_roundg g1
       case measure=>omega
       case rel=>exact ⟨i+1,met5,out5,v5,by (try simp),⟨by omega⟩,HS5,⟨(hFr.out.trans (WF.of_below HB4.out)).trans HF5.out⟩,⟨fun e m' o' h=>hWs.out e m' o' (by rw [HFS.out];exact .cons HW5.out h)⟩,⟨by have:=hLb.out;omega⟩,⟨fun j cs h=>by
        have h1:=hK34.out j cs h
        have h2:=HB4.out.block j (Nat.lt_of_lt_of_le (blk_lt h) hFr.out.size)
        have h3:=(hS.out.step HB4.out).far HF5.out (k:=j) (t:=34) (cs:=cs) (h2.trans (h1.trans h)) (by decide) (by decide) (by decide)
        exact h3.trans (h2.trans h1)⟩⟩
end
section
variable {us:ByteArray→List Us}{er:ByteArray→Int}{w0:World}{m:AL}{pv:Value}{PB fm cm:Nat}
structure Env (us:ByteArray→List Us)(er:ByteArray→Int)(w0:World)(m:AL)(pv:Value)(PB fm cm:Nat)(names:List ByteArray):Prop where
 nm:∀n,(alGet m n).isSome=true→n∈names
 rd:∀n,(alGet m n).isSome=true→ReadC us er w0 m pv PB fm cm n
 fs:∀n,∀u∈us n,u.2.2.toList≠[]→(alGet m u.2.2).isSome=true
 len:∀n,(us n).length≤1000000
 small:names.length≤1000
theorem Env.in_ {names:List ByteArray}(E:Env us er w0 m pv PB fm cm names):∀x,∀y∈fsOf (us x),y∈names:=fun x y hy=>by
 obtain ⟨u,h1,h2,h3⟩:=fsOf_mem hy
 exact E.nm y (by rw [←h2];exact E.fs x u h1 (by rw [h2];exact h3))
theorem walk_any {I:Ids}{names:List ByteArray}(E:Env us er w0 m pv PB fm cm names):∀(k:Nat) (name:ByteArray) (met out:List ByteArray) (v:Value) (w:World),(alGet m name).isSome=true→Graph.left names met≤k→out.length+Graph.left names met≤1000→WS us er w0 m pv PB fm cm I w v met out→
 Calls Tryz.prog 52 #[.string name,.pointer (some ⟨I.MC,0,none⟩),.pointer (some ⟨I.PC,0,none⟩),.pointer (some ⟨I.OC,0,none⟩),.pointer (some ⟨I.WC,0,none⟩)] w (WalkQ us er w0 m pv PB fm cm I name met out v w):=by
 intro k
 induction k with
 |zero=>
  intro name met out v w hn hk hl S
  by_cases hm:name∈met
  · exact walk_met name met out v w hm S
  · have:=Graph.left_cons (E.nm name hn) hm
    omega
 |succ k ih=>
  intro name met out v w hn hk hl S
  by_cases hm:name∈met
  · exact walk_met name met out v w hm S
  · by_cases he:er name=0
    · exact walk_new k names name met out v w hm he (E.nm name hn) (E.fs name) (E.len name) hk hl (fun n met out e met' out' h hn=>Graph.walk_len er (fun n=>fsOf (us n)) E.in_ n met out e met' out' h hn) E.nm ih (E.rd name hn) S
    · exact walk_bad name met out v w hm he (E.rd name hn) S
theorem left_le {α:Type}(names met:List α):Graph.left names met≤names.length:=by
 unfold Graph.left;exact List.length_filter_le _ _
theorem all_any {names:List ByteArray}(E:Env us er w0 m pv PB fm cm names)(name:ByteArray)(w:World)(hn:(alGet m name).isSome=true)(P:PS us er w0 m pv PB fm cm w):
 Calls Tryz.prog 26 #[.pointer (some ⟨PB,0,none⟩),.string name] w fun e w'=>∃(er':Int) (met' out':List ByteArray) (v':Value),e= .returned (.tuple #[v',.int .i64 er'])∧Graph.Walk er (fun n=>fsOf (us n)) name [] [] er' met' out'∧Kd.R Kd.string 9 w' w.heap.size (fun _=>True) v' (if er'=0 then out' else [])∧PS us er w0 m pv PB fm cm w'∧w.heap.size≤w'.heap.size∧∀k,k<w.heap.size→k≠cm→w'.heap[k]? =w.heap[k]? :=by
 have hmf:∀(fn:Fn) (first cap:Array Value) (w:World),(Instr.makeFunc fn first cap).run Tryz.prog w= .ok (.func fn first cap) w:=fun _ _ _ _=>rfl
 have hmm:∀w,(Instr.makeMap 112 none).run Tryz.prog w= .ok (.map (some w.heap.size)) (w.alloc (.map #[] 0)):=fun _=>rfl
 obtain ⟨S,hS⟩:∃S,S=w.heap.size:=⟨_,rfl⟩
 have H52:Calls Tryz.prog 52 #[.string name,.pointer (some ⟨w.heap.size+1+1+1,0,none⟩),.pointer (some ⟨w.heap.size,0,none⟩),.pointer (some ⟨w.heap.size+1,0,none⟩),.pointer (some ⟨w.heap.size+1+1+1+1,0,none⟩)] (((((w.alloc (Obj.cells #[Value.pointer (some ⟨PB,0,none⟩)] 47)).alloc (Obj.cells #[Value.slice none 0 0] 23)).alloc (Obj.map #[] 0)).alloc (Obj.cells #[Value.map (some (w.heap.size+1+1))] 112)).alloc (Obj.cells #[Value.func (.func 52) #[] #[.pointer (some ⟨w.heap.size+1+1+1,0,none⟩),.pointer (some ⟨w.heap.size,0,none⟩),.pointer (some ⟨w.heap.size+1,0,none⟩),.pointer (some ⟨w.heap.size+1+1+1+1,0,none⟩)]] 113)) fun e w'=>∃(er':Int) (met' out':List ByteArray) (v':Value),e= .returned (.int .i64 er')∧Graph.Walk er (fun n=>fsOf (us n)) name [] [] er' met' out'∧w'.heap[w.heap.size+1]? =some (.cells #[v'] 23 (0,0))∧Kd.R Kd.string 9 w' w.heap.size (fun _=>True) v' out'∧PS us er w0 m pv PB fm cm w'∧w.heap.size≤w'.heap.size∧∀k,k<w.heap.size→k≠cm→w'.heap[k]? =w.heap[k]? :=by
  obtain ⟨W1,hW1⟩:∃W1,W1=w.alloc (Obj.cells #[Value.pointer (some ⟨PB,0,none⟩)] 47):=⟨_,rfl⟩
  have s1:W1.heap.size=w.heap.size+1:=by rw [hW1,alloc_size]
  have p1:W1.heap[w.heap.size]? =some (.cells #[Value.pointer (some ⟨PB,0,none⟩)] 47 (0,0)):=by rw [hW1];exact blk_new _ _
  have b1:Below w.heap.size w W1:=by rw [hW1];exact below_alloc (Below.refl _ _) _
  rw [←hW1]
  obtain ⟨W2,hW2⟩:∃W2,W2=W1.alloc (Obj.cells #[Value.slice none 0 0] 23):=⟨_,rfl⟩
  have s2:W2.heap.size=w.heap.size+1+1:=by rw [hW2,alloc_size,s1]
  have p2:W2.heap[w.heap.size+1]? =some (.cells #[Value.slice none 0 0] 23 (0,0)):=by rw [hW2,←s1];exact blk_new _ _
  have b2:Below W1.heap.size W1 W2:=by rw [hW2];exact below_alloc (Below.refl _ _) _
  rw [←hW2]
  obtain ⟨W3,hW3⟩:∃W3,W3=W2.alloc (Obj.map #[] 0):=⟨_,rfl⟩
  have s3:W3.heap.size=w.heap.size+1+1+1:=by rw [hW3,alloc_size,s2]
  have p3:W3.heap[w.heap.size+1+1]? =some (.map #[] 0):=by rw [hW3,←s2];exact blk_new _ _
  have b3:Below W2.heap.size W2 W3:=by rw [hW3];exact below_alloc (Below.refl _ _) _
  rw [←hW3]
  obtain ⟨W4,hW4⟩:∃W4,W4=W3.alloc (Obj.cells #[Value.map (some (w.heap.size+1+1))] 112):=⟨_,rfl⟩
  have s4:W4.heap.size=w.heap.size+1+1+1+1:=by rw [hW4,alloc_size,s3]
  have p4:W4.heap[w.heap.size+1+1+1]? =some (.cells #[Value.map (some (w.heap.size+1+1))] 112 (0,0)):=by rw [hW4,←s3];exact blk_new _ _
  have b4:Below W3.heap.size W3 W4:=by rw [hW4];exact below_alloc (Below.refl _ _) _
  rw [←hW4]
  obtain ⟨W5,hW5⟩:∃W5,W5=W4.alloc (Obj.cells #[Value.func (.func 52) #[] #[.pointer (some ⟨w.heap.size+1+1+1,0,none⟩),.pointer (some ⟨w.heap.size,0,none⟩),.pointer (some ⟨w.heap.size+1,0,none⟩),.pointer (some ⟨w.heap.size+1+1+1+1,0,none⟩)]] 113):=⟨_,rfl⟩
  have s5:W5.heap.size=w.heap.size+1+1+1+1+1:=by rw [hW5,alloc_size,s4]
  have p5:W5.heap[w.heap.size+1+1+1+1]? =some (.cells #[Value.func (.func 52) #[] #[.pointer (some ⟨w.heap.size+1+1+1,0,none⟩),.pointer (some ⟨w.heap.size,0,none⟩),.pointer (some ⟨w.heap.size+1,0,none⟩),.pointer (some ⟨w.heap.size+1+1+1+1,0,none⟩)]] 113 (0,0)):=by rw [hW5,←s4];exact blk_new _ _
  have b5:Below W4.heap.size W4 W5:=by rw [hW5];exact below_alloc (Below.refl _ _) _
  rw [←hW5]
  have hb:Below w.heap.size w W5:=below_step (below_step (below_step (below_step b1 b2) b3) b4) b5
  have hb0:=P.below.size
  obtain ⟨c,hP,_⟩:=P.prj
  have hfl:=hP.hm.lt
  have hcl:=hP.hc.lt
  have f1:=(b5.block (w.heap.size+1+1+1) (by omega)).trans p4
  have f2:=(b5.block w.heap.size (by omega)).trans ((b4.block w.heap.size (by omega)).trans ((b3.block w.heap.size (by omega)).trans ((b2.block w.heap.size (by omega)).trans p1)))
  have f3:=(b5.block (w.heap.size+1) (by omega)).trans ((b4.block (w.heap.size+1) (by omega)).trans ((b3.block (w.heap.size+1) (by omega)).trans p2))
  have f4:=(b5.block (w.heap.size+1+1) (by omega)).trans ((b4.block (w.heap.size+1+1) (by omega)).trans p3)
  let I:Ids:=⟨w.heap.size+1+1+1,w.heap.size,w.heap.size+1,w.heap.size+1+1+1+1,w.heap.size+1+1,w.heap.size⟩
  have S5:WS us er w0 m pv PB fm cm I W5 (.slice none 0 0) [] []:={
   ps:=P.step hb
   mc:=f1
   pc:=f2
   oc:=f3
   wc:=p5
   mm:=⟨[],⟨_,_,f4,rfl⟩,fun n=>⟨fun h=>by simp at h,fun _=>rfl⟩⟩
   out:=Kd.R_nil _ _ _ _ _
   b0:=hb0
   bo:=Nat.le_succ _
   bm:=by show w.heap.size≤w.heap.size+1+1;omega
   nf:=by show w.heap.size+1+1≠fm;omega
   nc:=by show w.heap.size+1+1≠cm;omega}
  have hsm:=E.small
  have hll:=left_le names []
  refine (walk_any E names.length name [] [] (.slice none 0 0) W5 hn hll (by simp;omega) S5).mono ?_
  rintro e w' ⟨er',met',out',v',rfl,hw,hs,hf⟩
  refine ⟨er',met',out',v',rfl,hw,hs.oc,hs.out,hs.ps,by have:=hf.size;omega,fun k h1 h2=> ?_⟩
  exact (hf.keep k (by omega) h2 (by show k≠w.heap.size+1+1;omega) (by show k≠w.heap.size+1;omega) (by simp [Value.ownBlock])).trans (hb.block k h1)
 clear E P hn hS
 go_enter Tryz.func26,Tryz.ntmps26
 go_wp2_with (go_at_call 52;go_loud (refine H52.mono ?_;rintro e w6 ⟨er6,met6,out6,v6,rfl,hw6,ho6,hr6,hp6,hs6,hk6⟩;obtain ⟨A6,c6,rfl⟩:=Kd.R_slice hr6;have o6:w6.cell? ⟨w.heap.size+1,0,none⟩=some (.slice A6 out6.length c6):=(by have:=cell_of_row _ _ 0 _ _ _ ho6;simpa using this);have HX6:=z0 (And.intro hw6 (And.intro hr6 (And.intro hp6 (And.intro hs6 hk6))));clear hw6 ho6 hr6 hp6 hs6 hk6))
 · rename_i h5
   have h5':er6≠0:=by simpa using h5
   go_ret2
   obtain ⟨h1,h2,h3,h4,h6⟩:=HX6.out
   exact ⟨er6,met6,out6,_,rfl,h1,by rw [if_neg h5'];exact Kd.R_nil _ _ _ _ _,h3,h4,h6⟩
 · rename_i h5
   have h5':er6=0:=by simpa using h5
   subst h5'
   go_ret2
   obtain ⟨h1,h2,h3,h4,h6⟩:=HX6.out
   exact ⟨0,met6,out6,_,rfl,h1,by rw [if_pos rfl];exact h2,h3,h4,h6⟩
end
structure ArgsOK (W:World)(files:List Fl)(ps:List ByteArray)(A Ap:Option Addr)(c cp:Nat):Prop where
 glob:Glob2 W
 fc:Kd.C kFl W A files.length files
 fl:files.length≤c
 pc:Kd.C Kd.string W Ap ps.length ps
 hA:Ap=none∨∃b o,Ap=some ⟨b,o,none⟩
 npl:ps.length≤5
 nfl:files.length≤61
 fsz:∀f∈files,f.1.size≤4000∧f.2.size≤4000
 psz:∀p∈ps,p.size≤140737488355328
theorem ArgsOK.below {W W':World}{files:List Fl}{ps:List ByteArray}{A Ap:Option Addr}{c cp:Nat}(h:ArgsOK W files ps A Ap c cp)(hb:Below W.heap.size W W'):ArgsOK W' files ps A Ap c cp:=
 ⟨h.glob.below hb,Kd.C_below h.fc hb,h.fl,Kd.C_below h.pc hb,h.hA,h.npl,h.nfl,h.fsz,h.psz⟩
theorem filesGo_get:∀(files:List Fl) (m0 m:AL),filesGo m0 files=some m→(∀n u,alGet m n=some u→alGet m0 n=some u∨∃f∈files,f.1=n∧u= .string f.2)∧(∀n,(alGet m0 n).isSome=true→(alGet m n).isSome=true)∧∀f∈files,(alGet m f.1).isSome=true
 |[],m0,m,h=>by
  obtain rfl:=Option.some.inj h
  exact ⟨fun n u h=> .inl h,fun n h=>h,fun f hf=>by simp at hf⟩
 |f::l,m0,m,h=>by
  unfold filesGo at h
  split at h
  · cases h
  · obtain ⟨h1,h2,h3⟩:=filesGo_get l _ m h
    refine ⟨fun n u hu=> ?_,fun n hn=>h2 n ?_,fun g hg=> ?_⟩
    · rcases h1 n u hu with h4|⟨g,hg,h5⟩
      · rw [alGet_put] at h4
        split at h4
        · rename_i hn
          exact .inr ⟨f,List.mem_cons_self ..,((MapKept.bytes_beq _ _).1 hn).symm,(Option.some.inj h4).symm⟩
        · exact .inl h4
      · exact .inr ⟨g,List.mem_cons_of_mem _ hg,h5⟩
    · rw [alGet_put]
      split
      · rfl
      · exact hn
    · rcases List.mem_cons.1 hg with rfl|hg
      · refine h2 _ ?_
        rw [alGet_put,if_pos ((MapKept.bytes_beq _ _).2 rfl)];rfl
      · exact h3 g hg
theorem openF_files {files:List Fl}{m:AL}(h:openF files=(0,some m)):filesGo [] files=some m∧files.length≤60:=by
 unfold openF at h
 split at h
 · cases h
 · split at h
   · cases h
   · split at h
     · cases h
     · rename_i m' hm
       injection h with _ h
       injection h with h
       rw [←h];exact ⟨hm,by omega⟩
theorem open_get {files:List Fl}{m:AL}(h:openF files=(0,some m)):(∀n u,alGet m n=some u→∃f∈files,f.1=n∧u= .string f.2)∧∀f∈files,(alGet m f.1).isSome=true:=by
 obtain ⟨h1,_,h3⟩:=filesGo_get files [] m (openF_files h).1
 refine ⟨fun n u hu=> ?_,h3⟩
 rcases h1 n u hu with h|h
 · cases h
 · exact h
theorem usF_mem (incs:Nat→Option (ByteArray × Bool))(files:Nat→ByteArray)(gs:List Gr):∀k,∀x∈usF incs files gs k,∃i,incs i=some (x.1,x.2.1)∧x.2.2=files i
 |0,x,h=>by simp [usF] at h
 |k+1,x,h=>by
  unfold usF at h
  rcases List.mem_append.1 h with h|h
  · exact usF_mem incs files gs k x h
  · split at h
    · rename_i n q hi
      split at h
      · obtain rfl:=List.mem_singleton.1 h
        exact ⟨k,hi,rfl⟩
      · simp at h
    · simp at h
theorem usR_in (m:AL)(ps:List ByteArray)(n:ByteArray):∀u∈usR m ps n,u.2.2.toList≠[]→(alGet m u.2.2).isSome=true:=by
 intro u hu hne
 unfold usR usT at hu
 split at hu
 · simp at hu
 · obtain ⟨i,h1,h2⟩:=usF_mem _ _ _ _ u hu
   unfold filesR at h2
   rw [h1] at h2
   simp only at h2
   rcases findGo_in m ((dirsR ps n u.2.1).map fun d=>joinR d u.1) with h|h
   · refine absurd ?_ hne
     rw [h2]
     unfold findR
     rw [h,ByteArray.toList_eq]
   · rw [h2];exact h
def gR (m:AL)(ps:List ByteArray)(n:ByteArray):List ByteArray:=fsOf (usR m ps n)
section
variable {W:World}{files:List Fl}{ps:List ByteArray}{A Ap:Option Addr}{c cp:Nat}{m:AL}
theorem ArgsOK.get_ (H:ArgsOK W files ps A Ap c cp)(hm:openF files=(0,some m)):∀n u,alGet m n=some u→∃s,u= .string s∧s.size≤4000∧n.size≤4000:=fun n u hu=>by
 obtain ⟨f,hf,h1,h2⟩:=(open_get hm).1 n u hu
 have:=H.fsz f hf
 exact ⟨f.2,h2,this.2,by rw [←h1];exact this.1⟩
theorem ArgsOK.envOK (H:ArgsOK W files ps A Ap c cp)(hm:openF files=(0,some m)):EnvOK W m ps Ap:=⟨H.glob,H.pc,H.hA,H.npl,H.get_ hm,H.psz⟩
theorem ArgsOK.text (H:ArgsOK W files ps A Ap c cp)(hm:openF files=(0,some m))(n:ByteArray):(txtOf m n).size≤4000:=by
 unfold txtOf
 split
 · rename_i s h
   obtain ⟨s',h1,h2,_⟩:=H.get_ hm n _ h
   injection h1 with h1
   rw [h1];exact h2
 · show 0≤4000
   omega
theorem ArgsOK.env (H:ArgsOK W files ps A Ap c cp)(hm:openF files=(0,some m))(PB fm cm:Nat):Env (usR m ps) (erN m) W m (.slice Ap ps.length cp) PB fm cm (files.map (·.1)) where
 nm n hn:=by
  obtain ⟨u,hu⟩:=Option.isSome_iff_exists.1 hn
  obtain ⟨f,hf,h1,_⟩:=(open_get hm).1 n u hu
  exact List.mem_map.2 ⟨f,hf,h1⟩
 rd n hn:=fun W' P=>read_any m ps Ap cp PB fm cm W W' n (H.envOK hm) hn P
 fs n:=usR_in m ps n
 len n:=by
  unfold usR usT
  split
  · simp
  · have h1:=usF_len (incsR (txtOf m n)) (filesR m ps n (txtOf m n)) (grR (txtOf m n)) (scanR (txtOf m n)).1.length
    have h2:=(scan_toks (txtOf m n) (H.text hm n)).1
    omega
 small:=by rw [List.length_map];have:=H.nfl;omega
theorem ps_of_new {PB fm cm:Nat}{W':World}(hP:PrjIs W.heap.size W' PB fm cm (.slice Ap ps.length cp) m [])(hb:Below W.heap.size W W'):PS (usR m ps) (erN m) W m (.slice Ap ps.length cp) PB fm cm W':=
 ⟨hb,[],hP,fun n u hu=>by cases hu⟩
theorem withF_cases (files:List Fl)(name:ByteArray):(∃er,er≠0∧withF files name=(er,none))∨∃m,openF files=(0,some m)∧(alGet m name).isSome=true∧withF files name=(0,some m):=by
 rcases openF_err files with ⟨h1,h2⟩|⟨m,hm⟩
 · have h3:openF files=((openF files).1,none):=by rw [←h1]
   exact .inl ⟨(openF files).1,by omega,by unfold withF;rw [h3]⟩
 · unfold withF
   rw [hm]
   by_cases h:(alGet m name).isSome=true
   · exact .inr ⟨m,rfl,h,by simp only;rw [if_pos h]⟩
   · exact .inl ⟨4,by decide,by simp only;rw [if_neg h]⟩
end
def fgoN (files:List Fl):List (ByteArray × Bool)→ByteArray
 |[]=>⟨#[]⟩
 |j::l=>if j.2=true∧0≤findN files j.1 then j.1 else fgoN files l
def filesN (files:List Fl)(ps:List ByteArray)(name s:ByteArray)(i:Nat):ByteArray:=match incsR s i with
 |some (n,q)=>fgoN files ((dirsR ps name q).map fun d=>joinR d n)
 |none=>⟨#[]⟩
def usN (files:List Fl)(ps:List ByteArray)(name s:ByteArray):List Us:=if erR s≠0 then [] else usF (incsR s) (filesN files ps name s) (grR s) (scanR s).1.length
theorem r_up_dir (s:ByteArray)(hs:s.size≤1000000):∃b,ORef.smockingref21_up.f (s.size+2) s=some (s.extract 0 (max 0 (ldR s)).toNat,b):=by
 rcases Nat.eq_zero_or_pos s.size with h0|h0
 · have hl:ldR s= -1:=by
    obtain ⟨t,ht,_,_,h⟩:=lastIdx_tot s 47 (by omega) (s.size+2) (by omega)
    unfold ldR;rw [ht,h h0];rfl
   refine ⟨false,?_⟩
   unfold ORef.smockingref21_up.f
   rw [if_pos ((toList_nil s).2 h0),hl,show (max 0 (-1:Int)).toNat=0 from rfl,ext00]
 · exact ⟨true,r_up s (by omega) hs⟩
theorem r_kinds (s:ByteArray)(hs:s.size≤4000):∀(i:Nat) (t:Tk),(scanR s).1[i]? =some t→∃r k,(ksR s)[i]? =some r∧OKin.smockingref03_Kind.f k t.1 t.2.1 t.2.2.1 t.2.2.2=some r:=fun i t h=>by
 refine ⟨kindR t,20,by unfold ksR;rw [List.getElem?_map,h];rfl,r_Kind t ?_⟩
 have:=(scan_toks s hs).2 i t h
 omega
theorem usF_skip {incs:Nat→Option (ByteArray × Bool)}{files:Nat→ByteArray}{gs:List Gr}{i:Nat}(h:incs i=none):usF incs files gs (i+1)=usF incs files gs i:=by
 conv=>lhs;unfold usF
 rw [h];simp
theorem usF_hid {incs:Nat→Option (ByteArray × Bool)}{files:Nat→ByteArray}{gs:List Gr}{i:Nat}{n:ByteArray}{q:Bool}(h:incs i=some (n,q))(hs:seenB gs i=false):usF incs files gs (i+1)=usF incs files gs i:=by
 conv=>lhs;unfold usF
 rw [h];simp [hs]
theorem usF_one {incs:Nat→Option (ByteArray × Bool)}{files:Nat→ByteArray}{gs:List Gr}{i:Nat}{n:ByteArray}{q:Bool}(h:incs i=some (n,q))(hs:seenB gs i=true):usF incs files gs (i+1)=usF incs files gs i++[(n,q,files i)]:=by
 conv=>lhs;unfold usF
 rw [h];simp [hs]
theorem inc_notdir {t:Tk}{x:ByteArray × Bool}(h:incR t=some x):opensB (kindR t)=false∧(kindR t).toList≠elifL∧(kindR t).toList≠elseL∧(kindR t).toList≠endifL:=by
 have hk:(kindR t).toList=incL:=by
  unfold incR at h
  split at h
  · assumption
  · cases h
 refine ⟨?_,?_,?_,?_⟩
 · unfold opensB;rw [hk];rfl
 · rw [hk];decide
 · rw [hk];decide
 · rw [hk];decide
theorem rJoin_any (d nm:ByteArray)(W:World)(hn:nm.size≤1000000)(hd:d.size≤140737488355328):Calls Tryz.prog 51 #[.string d,.string nm] W fun e w'=>e= .returned (.tuple #[.string (joinR d nm).1,.bool (joinR d nm).2])∧Drawn0 W w':=
 ORef.smockingref21_join.calls (4*d.size+3*nm.size+30) d nm (joinR d nm).1 (joinR d nm).2 W (r_join d nm hn hd)
theorem info33:(Tryz.prog.info? 33).map (fun i=>(i.zero,i.size,i.bytes))=some (some (.agg #[(.string ⟨#[]⟩),(.bool false),(.string ⟨#[]⟩)]),3,40):=by kernel_rfl
theorem under29:Tryz.prog.underlying 29=some (.slice 33):=by kernel_rfl
theorem under23:Tryz.prog.underlying 23=some (.slice 9):=by kernel_rfl
theorem kUs_mk (w:World)(base:Nat)(ok:Nat→Prop)(a c:ByteArray)(b:Bool):kUs.M w base ok (a,b,c) [.string a,.bool b,.string c]:=⟨[.string a],_,rfl,rfl,⟨[.bool b],_,rfl,rfl,rfl⟩⟩
theorem row0 {w:World}{base g:Nat}{ok:Nat→Prop}(h:w.heap[g]? =some (.cells #[] 9 (0,0)))(hb:base≤g)(ho:ok g):Kd.R Kd.string 9 w base ok (.slice (some ⟨g,0,none⟩) 0 0) []:=
 Kd.R_of_own (enc:=Value.string) (h1:=fun _=>rfl) ⟨rfl,.inr ⟨g,0,#[],rfl,hb,h,Nat.le_refl _,by decide,rfl,rfl⟩⟩ (fun k hk=>by
  have:g=k:=by simpa [Value.ownBlock] using hk
  rw [←this];exact ho)
theorem row1 {w:World}{base g:Nat}{ok:Nat→Prop}{x:ByteArray}(h:w.heap[g]? =some (.cells #[.string x] 9 (0,0)))(hb:base≤g)(ho:ok g):Kd.R Kd.string 9 w base ok (.slice (some ⟨g,0,none⟩) 1 1) [x]:=
 Kd.R_of_own (enc:=Value.string) (h1:=fun _=>rfl) ⟨rfl,.inr ⟨g,1,#[.string x],rfl,hb,h,Nat.le_refl _,by decide,rfl,rfl⟩⟩ (fun k hk=>by
  have:g=k:=by simpa [Value.ownBlock] using hk
  rw [←this];exact ho)
theorem ip_at {w:World}{A:Option Addr}{n:Nat}{xs:List (Int × Int)}(h:Kd.C kIP w A n xs)(i:Nat)(h1:i<n)(x:Int × Int)(hx:xs[i]? =some x):∃ad,A=some ad∧w.cell? (ad.add (i*2))=some (.int .i64 x.1)∧w.cell? ⟨(ad.add (i*2)).block,(ad.add (i*2)).off+1,none⟩=some (.int .i64 x.2):=by
 obtain ⟨ad,c,e,_,hK,hc0⟩:=Kd.C_get h x i (by omega) (by omega)
 have hxi:xs.getD (i:Int).toNat x=x:=by simp [List.getD_eq_getElem?_getD,hx]
 rw [hxi] at hK
 have hc:∀j u,c[j]? =some u→w.cell? (ad.add (i*2+j))=some u:=hc0
 obtain ⟨c1,c2,rfl,rfl,rfl⟩:=hK
 exact ⟨ad,e,hc 0 _ rfl,by rw [←add_field _ _ 1 (by omega)];exact hc 1 _ rfl⟩
theorem rUses_any {files:List Fl}{ps:List ByteArray}{A Ap:Option Addr}{c cp:Nat}{w:World}(H:ArgsOK w files ps A Ap c cp)(hcp:ps.length≤cp)(k:Nat)(f:Fl)(hf:files[k]? =some f):
 Calls Tryz.prog 25 #[.slice A files.length c,.int .i64 (k:Int),.slice Ap ps.length cp] w fun e w'=>∃v,e= .returned (.tuple #[v,.int .i64 (erR f.2)])∧Kd.R kUs 33 w' w.heap.size (fun _=>True) v (usN files ps f.1 f.2)∧Below w.heap.size w w':=by
 obtain ⟨name,s⟩:=f
 simp only
 obtain ⟨hn4,hs4⟩:=H.fsz (name,s) (List.mem_of_getElem? hf)
 simp only at hn4 hs4
 have hkl:=(List.getElem?_eq_some_iff.1 hf).1
 obtain ⟨ad,hA,hx0,hx1⟩:=fl_at H.fc k hkl (name,s) hf
 obtain rfl:=hA
 obtain ⟨hyl,hyt⟩:=scan_toks s hs4
 have hkk:=r_kinds s hs4
 have hks:(ksR s).length=(scanR s).1.length:=by simp [ksR]
 have H46:=fun W=>rScan_any s W (by omega)
 have H47:=fun (W:World) A c hC hc=>rGroups_any (scanR s).1 (ksR s) W A c hC hc (by omega) hks hkk
 have H50:=fun (W:World) A c hC hc he i hi=>rOf_any (scanR s).1 (ksR s) W A c hC hc (by omega) hks hkk he i hi
 obtain ⟨bu,hbu⟩:=r_up_dir name (by omega)
 have H48:=fun W=>ORef.smockingref21_up.calls (name.size+2) name _ _ W hbu
 obtain ⟨own,hown⟩:∃own,own=name.extract 0 (max 0 (ldR name)).toNat:=⟨_,rfl⟩
 rw [←hown] at H48
 obtain ⟨ys,hys⟩:∃ys,ys=(scanR s).1:=⟨_,rfl⟩
 obtain ⟨n,hn⟩:∃n,n=ys.length:=⟨_,rfl⟩
 rw [←hys,←hn] at H47 H50
 rw [←hys] at hyl hyt H46
 obtain ⟨e1,he1⟩:∃e1,e1=(scanR s).2:=⟨_,rfl⟩
 rw [←he1] at H46
 obtain ⟨e2,he2⟩:∃e2,e2=(groupsR (ksR s)).2.1:=⟨_,rfl⟩
 rw [←he2] at H47 H50
 have HH:=z0 H
 have HCP:=z0 hcp
 have HOWN:=z0 hown
 have HYS:=z0 hys
 have HN:=z0 hn
 have HE1:=z0 he1
 have HE2:=z0 he2
 have HYT:=z0 hyt
 have hn40:n≤40000:=by omega
 obtain ⟨NF,hNF⟩:∃NF,NF=files.length:=⟨_,rfl⟩
 rw [←hNF] at hkl ⊢
 have HNF:=z0 hNF
 have H24:Aside0 (∀(nm':ByteArray) (W:World),Below w.heap.size w W→Calls Tryz.prog 24 #[.slice (some ad) NF c,.string nm'] W fun e w'=>e= .returned (.int .i64 (findN files nm'))∧Below W.heap.size W w'):=⟨fun nm' W hb=>by
  have h:=rFind_any files nm' W (some ad) c (Kd.C_below HH.out.fc hb) HH.out.fl (by have:=HH.out.nfl;omega)
  rwa [←hNF] at h⟩
 obtain ⟨NP,hNP⟩:∃NP,NP=ps.length:=⟨_,rfl⟩
 rw [←hNP] at ⊢
 have HNP:=z0 hNP
 have hk0:(0:Int)≤(k:Int):=by omega
 have hk1:(k:Int)<(NF:Int):=by omega
 have HF:=z0 hf
 clear H hcp hown hys hn he1 he2 hyl hyt hbu hkk hks hNF hNP hf hs4
 by_cases h1:e1=0
 · subst h1
   by_cases h2:e2=0
   · subst h2
     have HER:Aside0 (erR s=0∧usN files ps name s=usF (incsR s) (filesN files ps name s) (grR s) n):=⟨by
      have:erR s=0:=by unfold erR;rw [if_neg (by rw [←HE1.out];decide)];exact HE2.out.symm
      exact ⟨this,by unfold usN;rw [this,if_neg (by decide),←HYS.out,←HN.out]⟩⟩
     go_enter Tryz.func25,Tryz.ntmps25
     go_wp2_with (first|(go_at_call 46;go_loud (refine (H46 _).mono ?_;rintro e w3 ⟨v3,rfl,hR,hb3⟩;obtain ⟨A3,c3,rfl⟩:=Kd.R_slice hR;have hq:=Kd.R_reads' hR;rw [←HN.out] at hq ⊢;have HC3:=z0 hq.2.2;have HL3:=z0 hq.2.1;have HB3:=z0 hb3;have hy0:=(hb3.cell (World.block_lt_of_cell? _ _ hx0)).trans hx0;clear hR hb3 hq))|(go_at_call 47;go_loud (refine (H47 _ A3 c3 HC3.out HL3.out).mono ?_;rintro e w4 ⟨v4,x4,og,rfl,hog,hR4,hb4⟩;have HB4:=z0 hb4;have hz0:=(hb4.cell (World.block_lt_of_cell? _ _ hy0)).trans hy0;clear hR4 hb4 hog))|(go_at_call 48;go_loud (refine (H48 _).mono ?_;rintro e w5 ⟨rfl,hd⟩;have HB5:=z0 (HB4.out.trans ⟨hd.below.os,hd.below.tape,hd.below.output,hd.below.size,fun k hk=>hd.below.block k (Nat.lt_of_lt_of_le hk HB4.out.size)⟩);clear hd)))
     have HBW:Aside0 (Below w.heap.size w w5):=⟨below_step HB3.out HB5.out⟩
     go_loopg [12,13] n (fun kq v12 v13 w'=>∃(i:Nat),v13= .int .i64 i∧Aside0 (kq+i=n)∧Aside0 (Kd.R kUs 33 w' w3.heap.size (fun _=>True) v12 (usF (incsR s) (filesN files ps name s) (grR s) i))∧Aside0 (Below w3.heap.size w3 w')∧Aside0 (Below w.heap.size w w'))
     case atStart=>exact ⟨0,rfl,⟨rfl⟩,⟨Kd.R_nil _ _ _ _ _⟩,HB5,HBW⟩
     case round=>
      obtain ⟨i,rfl,hki,hO,hB3,hBw⟩:=hrel
      have hki':=hki.out
      cases gk with
      |zero=>
       obtain rfl:i=n:=by omega
       have hlt:decide ((i:Int)<(i:Int))=false:=decide_eq_false (by omega)
       go_wp2_with (fail)
       go_ret2
       rw [HER.out.1,HER.out.2]
       exact ⟨_,rfl,Kd.R_lower hO.out HB3.out.size,hBw.out⟩
      |succ g1=>
       have hlt:decide ((i:Int)<(n:Int))=true:=decide_eq_true (by omega)
       have hin:i<n:=by omega
       have hii:(0:Int)≤(i:Int):=by omega
       obtain ⟨x,hx⟩:∃x,ys[i]? =some x:=⟨_,List.getElem?_eq_getElem (by rw [←HN.out];exact hin)⟩
       have hCi:=Kd.C_below HC3.out hB3.out
       obtain ⟨ad,hA,hx0,hx1,hx2,hx3⟩:=tk_at hCi i hin x hx
       obtain rfl:=hA
       have HX:=z0 hx
       have hxs:=HYT.out i x hx
       have H49:=fun W=>rWritten_any x W (by omega)
       have hinc:incsR s i=incR x:=by unfold incsR;rw [←HYS.out,hx];rfl
       have HINC:=z0 hinc
       clear hx hinc hCi
       obtain ⟨kd,bf,tx,a1⟩:=x
       simp only at hx0 hx1 hx2 hx3 hxs H49
       cases hir:incR (kd,bf,tx,a1) with
       |none=>
        have hwr:wrR (kd,bf,tx,a1)=(⟨#[]⟩,false,false):=by unfold wrR;rw [hir]
        rw [hwr] at H49
        have HSK:Aside0 (usF (incsR s) (filesN files ps name s) (grR s) (i+1)=usF (incsR s) (filesN files ps name s) (grR s) i):=⟨usF_skip (by rw [HINC.out,hir])⟩
        clear hwr hir
        go_wp2_with (go_at_call 49;go_loud (refine (H49 _).mono ?_;rintro e w6 ⟨rfl,hb6⟩;have HO6:=z0 (Kd.R_below hO.out hb6);have HB6:=z0 (below_step hBw.out hb6);have HB36:=z0 (below_step hB3.out hb6);clear hb6))
        go_roundg g1
        case measure=>omega
        case rel=>exact ⟨i+1,(by first|rfl|simp),⟨by omega⟩,⟨by rw [HSK.out];exact HO6.out⟩,HB36,HB6⟩
       |some nq=>
        obtain ⟨nm,q⟩:=nq
        have hwr:wrR (kd,bf,tx,a1)=(nm,q,true):=by unfold wrR;rw [hir]
        rw [hwr] at H49
        have HIR:Aside0 (incsR s i=some (nm,q)):=⟨by rw [HINC.out,hir]⟩
        have HSEEN:=of_seen (ksR s) HE2.out.symm i (kindR (kd,bf,tx,a1)) (by unfold ksR;rw [←HYS.out,List.getElem?_map,HX.out];rfl) (inc_notdir hir)
        obtain ⟨OF,hOF⟩:∃OF,OF=ofGo (i:Int) 0 ((groupsR (ksR s)).1.map (·.1)):=⟨_,rfl⟩
        have H50':=fun (W:World) A c hC hc=>H50 W A c hC hc (by first|trivial|rfl) i hin
        rw [←hOF] at HSEEN H50'
        obtain ⟨m,hm⟩:∃m,m=OF.length:=⟨_,rfl⟩
        have hml:m≤900000:=by
         rw [hm,hOF]
         have h1:=ofGo_len (i:Int) 0 ((groupsR (ksR s)).1.map (·.1))
         rw [List.length_map] at h1
         have h2:=(groups_inv (ksR s)).1
         have h3:(ksR s).length=n:=by rw [HN.out,HYS.out];simp [ksR]
         omega
        have HM:=z0 hm
        replace HSEEN:=z0 HSEEN
        have hnm:nm.size≤4000:=by have:=incR_size hir;simp only at this;omega
        clear hwr hir hOF hm H50
        go_wp2_with (first|(go_at_call 49;go_loud (refine (H49 _).mono ?_;rintro e w6 ⟨rfl,hb6⟩;have HO6:=z0 (Kd.R_below hO.out hb6);have HB6:=z0 (below_step hBw.out hb6);have HB36:=z0 (below_step hB3.out hb6);clear hb6))|(go_at_call 50;go_loud (refine (H50' _ _ c3 (Kd.C_below HC3.out HB36.out) HL3.out).mono ?_;rintro e w7 ⟨v7,rfl,hR7,hb7⟩;obtain ⟨A7,c7,rfl⟩:=Kd.R_slice hR7;have hq:=(Kd.R_reads' hR7).2.2;rw [←HM.out] at hq ⊢;have HC7:=z0 hq;have HO7:=z0 (Kd.R_below HO6.out hb7);have HB7:=z0 (below_step HB6.out hb7);have HB37:=z0 (below_step HB36.out hb7);clear hb7 hR7 hq)))
        have hT0:Value.bool true=Value.bool ((OF.take 0).all (fun p=>p.2==0)):=by simp
        go_loopg [16,19] m (fun kq v16 v19 w'=>∃(b:Nat),v19= .int .i64 b∧v16= .bool ((OF.take b).all (fun p=>p.2==0))∧Aside0 (kq+b=m)∧Aside0 (Below w7.heap.size w7 w'))
        case atStart=>exact ⟨0,rfl,hT0,⟨rfl⟩,⟨Below.refl _ _⟩⟩
        case round=>
         obtain ⟨b,rfl,rfl,hkb,hB8⟩:=hrel
         have hkb':=hkb.out
         have HBW8:=z0 (below_step HB7.out hB8.out)
         have HB38:=z0 (below_step HB37.out hB8.out)
         have HO8:=z0 (Kd.R_below HO7.out hB8.out)
         cases gk with
         |zero=>
          obtain rfl:b=m:=by omega
          have hlt:decide ((b:Int)<(b:Int))=false:=decide_eq_false (by omega)
          have hta:OF.take b=OF:=List.take_of_length_le (by rw [HM.out];exact Nat.le_refl _)
          rw [hta,HSEEN.out]
          clear hta
          cases hsn:seenB (groupsR (ksR s)).1 i with
          |false=>
           have HSK:Aside0 (usF (incsR s) (filesN files ps name s) (grR s) (i+1)=usF (incsR s) (filesN files ps name s) (grR s) i):=⟨usF_hid HIR.out hsn⟩
           clear hsn
           go_wp2_with (fail)
           go_roundg g1
           case measure=>omega
           case rel=>exact ⟨i+1,(by first|rfl|simp),⟨by omega⟩,⟨by rw [HSK.out];exact HO8.out⟩,HB38,HBW8⟩
          |true=>
           have HSK:Aside0 (usF (incsR s) (filesN files ps name s) (grR s) (i+1)=usF (incsR s) (filesN files ps name s) (grR s) i++[(nm,q,filesN files ps name s i)]):=⟨usF_one HIR.out hsn⟩
           clear hsn
           obtain ⟨W8,hW8⟩:∃W8,W8=wr:=⟨_,rfl⟩
           subst hW8
           have HW8:Aside0 (w3.heap.size≤W8.heap.size):=⟨HB38.out.size⟩
           have H51:=fun (d:ByteArray) (hd:d.size≤140737488355328) W=>rJoin_any d nm W (by omega) hd
           have H51:=z0 H51
           cases q with
           |false=>
            go_wp2_with ((at_builtin;go_loud (refine Kd.R_append_row Value.string ⟨#[]⟩ (h1:=fun _=>rfl) (w0:=w3) w3.heap.size rfl (.tmp 98) (.tmp 99) 23 9 (.string ⟨#[]⟩) 16 rfl under23 (by kernel_rfl) rfl (by omega) (.slice (some ⟨W8.heap.size+1,0,none⟩) 0 0) [] ps Ap NP cp (fun k=>W8.heap.size<k) rfl rfl ?aF ?aO ?aR ?aB ?aS ?aL ?_;(case aF=>intro k hk;rw [alloc_size,alloc_size] at hk;omega);(case aO=>refine row0 ?_ ?_ ?_;(have h:=blk_new (W8.alloc (Obj.cells #[Value.string nm,Value.bool false,Value.string ⟨#[]⟩] 33)) (Obj.cells #[] 9);rwa [alloc_size] at h);(have:=HB38.out.size;omega);exact Nat.lt_succ_self _);(case aR=>have h:=Kd.C_below HH.out.pc (below_alloc (below_alloc HBW8.out (Obj.cells #[Value.string nm,Value.bool false,Value.string ⟨#[]⟩] 33)) (Obj.cells #[] 9));rwa [←HNP.out] at h);(case aB=>exact below_alloc (below_alloc HB38.out _) _);(case aS=>exact below_size (below_alloc (below_alloc HB38.out _) _));(case aL=>have:=HH.out.npl;rw [←HNP.out] at this;simp only [List.length_nil];omega);intro v1 w9 ho hb9 hg9 hat9;obtain ⟨A21,c21,e21⟩:=Kd.R_slice ho;rw [List.nil_append,←HNP.out] at e21;subst e21;rw [List.nil_append] at ho;have HD9:=z0 ho;have HB39:=z0 hb9;have HX9:Aside0 (w9.heap[W8.heap.size]? =some (Obj.cells #[Value.string nm,Value.bool false,Value.string ⟨#[]⟩] 33 (0,0))):=⟨blk_grown (blk_alloc (blk_new _ _) _) hg9 (by simp [Value.ownBlock])⟩;have HO9:=z0 (Kd.R_grown2 (Kd.R_alloc (Kd.R_alloc HO8.out _) _) rfl hg9 (fun k hk e=>by have h1:W8.heap.size+1=k:=(by simpa [Value.ownBlock] using hk);have h2:=Kd.R_lt HO8.out k e.symm;omega));have HBW9:=z0 (below_step HB3.out HB39.out);clear ho hb9 hg9 hat9)))
            obtain ⟨D,hD⟩:∃D,D=ps:=⟨_,rfl⟩
            rw [←hD] at HD9
            have HDE:Aside0 (D=dirsR ps name false∧D.length=NP∧∀x∈D,x.size≤140737488355328):=⟨hD,by rw [hD];exact HNP.out.symm,by rw [hD];exact HH.out.psz⟩
            have HFR:Aside0 (w9.frozen? ⟨W8.heap.size,2,none⟩=false):=⟨blk_frozen HX9.out 2⟩
            have HXL:=z0 (blk_lt HX9.out)
            have hn5:NP≤5:=by have:=HH.out.npl;rw [HNP.out];exact this
            go_loopg [22,23,24] (NP) (fun kq v22 v23 v24 w'=>∃d:Int,v22= .int .i64 d∧Aside0 (d=(kq:Int)-1∧kq≤NP)∧Aside0 (w'.heap[W8.heap.size]? =some (Obj.cells #[Value.string nm,Value.bool false,Value.string (fgoN files ((D.drop kq).map fun d=>joinR d nm))] 33 (0,0)))∧Aside0 (Kd.R Kd.string 9 w' w3.heap.size (fun k=>W8.heap.size<k) (.slice A21 (NP) c21) D)∧Aside0 (Kd.R kUs 33 w' w3.heap.size (fun k=>k≠W8.heap.size) u12 (usF (incsR s) (filesN files ps name s) (grR s) i))∧Aside0 (Below w3.heap.size w3 w'))
            case atStart=>
             refine ⟨_,rfl,⟨?_,Nat.le_refl _⟩,⟨?_⟩,⟨HD9.out⟩,⟨Kd.R_mono (Kd.R_far1 HO9.out rfl (g:=W8.heap.size) (fun e=>by have:=Kd.R_lt HO8.out _ e.symm;omega)) (fun k hk=>hk.2)⟩,HB39⟩
             · first|exact OScan.wr (by omega) (by omega)|exact (OScan.wr (by omega) (by omega)).trans (by omega)
             · rw [List.drop_eq_nil_of_le (by rw [HDE.out.2.1];exact Nat.le_refl _)];exact HX9.out
            case round=>
             obtain ⟨d,rfl,hd,hX,hDD,hOd,hBd⟩:=hrel
             have hd':=hd.out.1
             have f0:=blk_cell hX.out 0
             have f1:=blk_cell hX.out 1
             have f2:=blk_cell hX.out 2
             simp only [List.getElem?_toArray,List.getElem?_cons_zero,List.getElem?_cons_succ] at f0 f1 f2
             cases gk with
             |zero=>
              obtain rfl:d= -1:=by omega
              have HFN:Aside0 (fgoN files ((D.drop 0).map fun d=>joinR d nm)=filesN files ps name s i):=⟨by rw [List.drop_zero,HDE.out.1];unfold filesN;rw [HIR.out]⟩
              have HUL:Aside0 (((usF (incsR s) (filesN files ps name s) (grR s) i).length+1)*40≤140737488355328):=⟨by have:=usF_len (incsR s) (filesN files ps name s) (grR s) i;omega⟩
              generalize hfg:fgoN files ((D.drop 0).map fun d=>joinR d nm)=FF at *
              clear hfg hd hd'
              go_wp2_with (at_builtin;go_loud (refine Kd.R_append kUs (w0:=w3) w3.heap.size rfl (.tmp 131) (.tmp 133) 29 33 (.agg #[(.string ⟨#[]⟩),(.bool false),(.string ⟨#[]⟩)]) 40 rfl under29 info33 rfl (by decide) (by omega) u12 (usF (incsR s) (filesN files ps name s) (grR s) i) (nm,false,FF) [.string nm,.bool false,.string FF] (fun _=>True) (fun _=>False) rfl rfl (kUs_mk _ _ _ _ _ _) (fun _ hk=>hk.elim) (fun _ _=>trivial) (Kd.R_mono hOd.out (fun _ _=>trivial)) hBd.out (below_size hBd.out) HUL.out ?_;intro v1 w14 ho hb hg hat;have HO14:=z0 ho;have HB14:=z0 hb;clear ho hb hg hat))
              go_roundg g1
              case measure=>omega
              case rel=>exact ⟨i+1,(by first|rfl|simp),⟨by omega⟩,⟨by rw [HSK.out,←HFN.out];exact HO14.out⟩,HB14,⟨below_step HB3.out HB14.out⟩⟩
             |succ g=>
              obtain rfl:d=(g:Int):=by omega
              have hgL:g<NP:=by have:=hd.out.2;omega
              have hg0:(0:Int)≤(g:Int):=by omega
              have hwd:wrap64 ((g:Int)-1)=(g:Int)-1:=OScan.wr (by omega) (by omega)
              obtain ⟨x,hx⟩:∃x,D[g]? =some x:=⟨_,List.getElem?_eq_getElem (by rw [HDE.out.2.1];exact hgL)⟩
              obtain ⟨ad21,hA21,hxc⟩:=str_at (Kd.R_reads' hDD.out).2.2 g (by rw [HDE.out.2.1];exact hgL) x hx
              obtain rfl:=hA21
              rw [Nat.mul_one] at hxc
              have hxs:=HDE.out.2.2 x (List.mem_of_getElem? hx)
              have H51x:=H51.out x hxs
              have HDR:Aside0 (D.drop g=x::D.drop (g+1)):=⟨by
               obtain ⟨h1,h2⟩:=List.getElem?_eq_some_iff.1 hx
               rw [List.drop_eq_getElem_cons h1,h2]⟩
              obtain ⟨jj,hjj⟩:∃jj,jj=joinR x nm:=⟨_,rfl⟩
              rw [←hjj] at H51x
              have HST:Aside0 (fgoN files ((D.drop g).map fun d=>joinR d nm)=if jj.2=true∧0≤findN files jj.1 then jj.1 else fgoN files ((D.drop (g+1)).map fun d=>joinR d nm)):=⟨by rw [HDR.out,List.map_cons,fgoN,←hjj]⟩
              clear hjj hx hxs
              obtain ⟨jr,jb⟩:=jj
              simp only at H51x
              obtain ⟨FF,hFF⟩:∃FF,FF=fgoN files ((D.drop (g+1)).map fun d=>joinR d nm):=⟨_,rfl⟩
              rw [←hFF] at HST hX
              clear hFF hd hd' f0 f1 f2
              cases jb with
              |false=>
               have HST':Aside0 (fgoN files ((D.drop g).map fun d=>joinR d nm)=FF):=⟨by rw [HST.out,if_neg (fun h=>by cases h.1)]⟩
               go_wp2_with (go_at_call 51;go_loud (refine (H51x _).mono ?_;rintro e w11 ⟨rfl,hdr⟩;have hbl:=hdr.below;have HX11:=z0 (blk_below hX.out hbl);have HD11:=z0 (Kd.R_below hDD.out hbl);have HO11:=z0 (Kd.R_below hOd.out hbl);have HB11:=z0 (below_step hBd.out hbl);clear hbl hdr))
               go_roundg g
               case measure=>omega
               case rel=>exact ⟨(g:Int)-1,(by first|rfl|rw [hwd]),⟨rfl,by omega⟩,⟨by rw [HST'.out];exact HX11.out⟩,HD11,HO11,HB11⟩
              |true=>
               by_cases h0:0≤findN files jr
               · have hr0:decide (findN files jr≥0)=true:=decide_eq_true h0
                 have HST':Aside0 (fgoN files ((D.drop g).map fun d=>joinR d nm)=jr):=⟨by rw [HST.out,if_pos ⟨rfl,h0⟩]⟩
                 go_wp2_with (first|(go_at_call 51;go_loud (refine (H51x _).mono ?_;rintro e w11 ⟨rfl,hdr⟩;have hbl:=hdr.below;have HX11:=z0 (blk_below hX.out hbl);have HD11:=z0 (Kd.R_below hDD.out hbl);have HO11:=z0 (Kd.R_below hOd.out hbl);have HB11:=z0 (below_step hBd.out hbl);clear hbl hdr))|(go_at_call 24;go_loud (refine (H24.out jr _ (below_step HB3.out HB11.out)).mono ?_;rintro e w12 ⟨rfl,hbl⟩;have HX12:=z0 (blk_below HX11.out hbl);have HD12:=z0 (Kd.R_below HD11.out hbl);have HO12:=z0 (Kd.R_below HO11.out hbl);have HB12:=z0 (below_step HB11.out hbl);have y2:=blk_cell HX12.out 2;have y3:=blk_frozen HX12.out 2;simp only [List.getElem?_toArray,List.getElem?_cons_zero,List.getElem?_cons_succ] at y2;clear hbl)))
                 go_roundg g
                 case measure=>omega
                 case rel=>exact ⟨(g:Int)-1,(by first|rfl|rw [hwd]),⟨rfl,by omega⟩,⟨by rw [HST'.out];exact blk_put HX12.out 2 (.string jr) rfl⟩,⟨Kd.R_far HD12.out (fun k hk e=>by have e':k=W8.heap.size:=e;omega) _⟩,⟨Kd.R_far HO12.out (fun k hk e=>hk e) _⟩,⟨HB12.out.setCell HW8.out _⟩⟩
               · have hr0:decide (findN files jr≥0)=false:=decide_eq_false h0
                 have HST':Aside0 (fgoN files ((D.drop g).map fun d=>joinR d nm)=FF):=⟨by rw [HST.out,if_neg (fun h=>h0 h.2)]⟩
                 go_wp2_with (first|(go_at_call 51;go_loud (refine (H51x _).mono ?_;rintro e w11 ⟨rfl,hdr⟩;have hbl:=hdr.below;have HX11:=z0 (blk_below hX.out hbl);have HD11:=z0 (Kd.R_below hDD.out hbl);have HO11:=z0 (Kd.R_below hOd.out hbl);have HB11:=z0 (below_step hBd.out hbl);clear hbl hdr))|(go_at_call 24;go_loud (refine (H24.out jr _ (below_step HB3.out HB11.out)).mono ?_;rintro e w12 ⟨rfl,hbl⟩;have HX12:=z0 (blk_below HX11.out hbl);have HD12:=z0 (Kd.R_below HD11.out hbl);have HO12:=z0 (Kd.R_below HO11.out hbl);have HB12:=z0 (below_step HB11.out hbl);have y2:=blk_cell HX12.out 2;have y3:=blk_frozen HX12.out 2;simp only [List.getElem?_toArray,List.getElem?_cons_zero,List.getElem?_cons_succ] at y2;clear hbl)))
                 go_roundg g
                 case measure=>omega
                 case rel=>exact ⟨(g:Int)-1,(by first|rfl|rw [hwd]),⟨rfl,by omega⟩,⟨by rw [HST'.out];exact HX12.out⟩,HD12,HO12,HB12⟩
           |true=>
            go_wp2_with (first|(at_builtin;go_loud (refine Kd.R_append_row Value.string ⟨#[]⟩ (h1:=fun _=>rfl) (w0:=w3) w3.heap.size rfl (.tmp 98) (.tmp 99) 23 9 (.string ⟨#[]⟩) 16 rfl under23 (by kernel_rfl) rfl (by omega) (.slice (some ⟨W8.heap.size+1,0,none⟩) 0 0) [] ps Ap NP cp (fun k=>W8.heap.size<k) rfl rfl ?aF ?aO ?aR ?aB ?aS ?aL ?_;(case aF=>intro k hk;rw [alloc_size,alloc_size] at hk;omega);(case aO=>refine row0 ?_ ?_ ?_;(have h:=blk_new (W8.alloc (Obj.cells #[Value.string nm,Value.bool true,Value.string ⟨#[]⟩] 33)) (Obj.cells #[] 9);rwa [alloc_size] at h);(have:=HB38.out.size;omega);exact Nat.lt_succ_self _);(case aR=>have h:=Kd.C_below HH.out.pc (below_alloc (below_alloc HBW8.out (Obj.cells #[Value.string nm,Value.bool true,Value.string ⟨#[]⟩] 33)) (Obj.cells #[] 9));rwa [←HNP.out] at h);(case aB=>exact below_alloc (below_alloc HB38.out _) _);(case aS=>exact below_size (below_alloc (below_alloc HB38.out _) _));(case aL=>have:=HH.out.npl;rw [←HNP.out] at this;simp only [List.length_nil];omega);intro v1 w9 ho hb9 hg9 hat9;obtain ⟨A21,c21,e21⟩:=Kd.R_slice ho;rw [List.nil_append,←HNP.out] at e21;subst e21;rw [List.nil_append] at ho;have HD9:=z0 ho;have HB39:=z0 hb9;have HX9:Aside0 (w9.heap[W8.heap.size]? =some (Obj.cells #[Value.string nm,Value.bool true,Value.string ⟨#[]⟩] 33 (0,0))):=⟨blk_grown (blk_alloc (blk_new _ _) _) hg9 (by simp [Value.ownBlock])⟩;have HO9:=z0 (Kd.R_grown2 (Kd.R_alloc (Kd.R_alloc HO8.out _) _) rfl hg9 (fun k hk e=>by have h1:W8.heap.size+1=k:=(by simpa [Value.ownBlock] using hk);have h2:=Kd.R_lt HO8.out k e.symm;omega));have HBW9:=z0 (below_step HB3.out HB39.out);clear ho hb9 hg9 hat9))|(at_builtin;go_loud (refine Kd.R_append_row Value.string ⟨#[]⟩ (h1:=fun _=>rfl) (w0:=w3) w3.heap.size rfl (.tmp 103) (.tmp 104) 23 9 (.string ⟨#[]⟩) 16 rfl under23 (by kernel_rfl) rfl (by omega) (.slice (some ⟨w9.heap.size,0,none⟩) 1 1) [own] ps A21 NP c21 (fun k=>W8.heap.size<k) rfl rfl ?aF ?aO ?aR ?aB ?aS ?aL ?_;(case aF=>intro k hk;have:=blk_lt HX9.out;rw [alloc_size] at hk;omega);(case aO=>exact row1 (blk_new _ _) HB39.out.size (blk_lt HX9.out));(case aR=>have h:=Kd.C_below (Kd.R_reads' HD9.out).2.2 (below_alloc (Below.refl _ _) (Obj.cells #[Value.string own] 9));rwa [←HNP.out] at h);(case aB=>exact below_alloc HB39.out _);(case aS=>exact below_size (below_alloc HB39.out _));(case aL=>have:=HH.out.npl;rw [←HNP.out] at this;simp only [List.length_singleton];omega);intro v1 w10 ho hb10 hg10 hat10;obtain ⟨A22,c22,e22⟩:=Kd.R_slice ho;have hlen:([own]++ps).length=NP+1:=(by rw [List.length_append,List.length_singleton,←HNP.out,Nat.add_comm]);rw [hlen] at e22;subst e22;have HD10:=z0 ho;have HB310:=z0 hb10;have HX10:Aside0 (w10.heap[W8.heap.size]? =some (Obj.cells #[Value.string nm,Value.bool true,Value.string ⟨#[]⟩] 33 (0,0))):=⟨blk_grown (blk_alloc HX9.out _) hg10 (by have:=blk_lt HX9.out;simp only [Value.ownBlock];intro e;injection e with e;omega)⟩;have HO10:=z0 (Kd.R_grown2 (Kd.R_alloc HO9.out _) rfl hg10 (fun k hk e=>by have h1:w9.heap.size=k:=(by simpa [Value.ownBlock] using hk);have h2:=Kd.R_lt HO9.out k e.symm;omega));have HBW10:=z0 (below_step HB3.out HB310.out);clear ho hb10 hg10 hat10 hlen)))
            obtain ⟨D,hD⟩:∃D,D=[own]++ps:=⟨_,rfl⟩
            rw [←hD] at HD10
            have HDE:Aside0 (D=dirsR ps name true∧D.length=NP+1∧∀x∈D,x.size≤140737488355328):=⟨by rw [hD,HOWN.out];rfl,by rw [hD,List.length_append,List.length_singleton,←HNP.out,Nat.add_comm],by
             rw [hD];intro x hx
             rcases List.mem_append.1 hx with hx|hx
             · rw [List.mem_singleton.1 hx,HOWN.out];have:=extract_le name 0 (max 0 (ldR name)).toNat;omega
             · exact HH.out.psz x hx⟩
            have HFR:Aside0 (w10.frozen? ⟨W8.heap.size,2,none⟩=false):=⟨blk_frozen HX10.out 2⟩
            have HXL:=z0 (blk_lt HX10.out)
            have hn5:NP≤5:=by have:=HH.out.npl;rw [HNP.out];exact this
            go_loopg [22,23,24] (NP+1) (fun kq v22 v23 v24 w'=>∃d:Int,v22= .int .i64 d∧Aside0 (d=(kq:Int)-1∧kq≤NP+1)∧Aside0 (w'.heap[W8.heap.size]? =some (Obj.cells #[Value.string nm,Value.bool true,Value.string (fgoN files ((D.drop kq).map fun d=>joinR d nm))] 33 (0,0)))∧Aside0 (Kd.R Kd.string 9 w' w3.heap.size (fun k=>W8.heap.size<k) (.slice A22 (NP+1) c22) D)∧Aside0 (Kd.R kUs 33 w' w3.heap.size (fun k=>k≠W8.heap.size) u12 (usF (incsR s) (filesN files ps name s) (grR s) i))∧Aside0 (Below w3.heap.size w3 w'))
            case atStart=>
             refine ⟨_,rfl,⟨?_,Nat.le_refl _⟩,⟨?_⟩,⟨HD10.out⟩,⟨Kd.R_mono (Kd.R_far1 HO10.out rfl (g:=W8.heap.size) (fun e=>by have:=Kd.R_lt HO8.out _ e.symm;omega)) (fun k hk=>hk.2)⟩,HB310⟩
             · first|exact OScan.wr (by omega) (by omega)|exact (OScan.wr (by omega) (by omega)).trans (by omega)
             · rw [List.drop_eq_nil_of_le (by rw [HDE.out.2.1];exact Nat.le_refl _)];exact HX10.out
            case round=>
             obtain ⟨d,rfl,hd,hX,hDD,hOd,hBd⟩:=hrel
             have hd':=hd.out.1
             have f0:=blk_cell hX.out 0
             have f1:=blk_cell hX.out 1
             have f2:=blk_cell hX.out 2
             simp only [List.getElem?_toArray,List.getElem?_cons_zero,List.getElem?_cons_succ] at f0 f1 f2
             cases gk with
             |zero=>
              obtain rfl:d= -1:=by omega
              have HFN:Aside0 (fgoN files ((D.drop 0).map fun d=>joinR d nm)=filesN files ps name s i):=⟨by rw [List.drop_zero,HDE.out.1];unfold filesN;rw [HIR.out]⟩
              have HUL:Aside0 (((usF (incsR s) (filesN files ps name s) (grR s) i).length+1)*40≤140737488355328):=⟨by have:=usF_len (incsR s) (filesN files ps name s) (grR s) i;omega⟩
              generalize hfg:fgoN files ((D.drop 0).map fun d=>joinR d nm)=FF at *
              clear hfg hd hd'
              go_wp2_with (at_builtin;go_loud (refine Kd.R_append kUs (w0:=w3) w3.heap.size rfl (.tmp 131) (.tmp 133) 29 33 (.agg #[(.string ⟨#[]⟩),(.bool false),(.string ⟨#[]⟩)]) 40 rfl under29 info33 rfl (by decide) (by omega) u12 (usF (incsR s) (filesN files ps name s) (grR s) i) (nm,true,FF) [.string nm,.bool true,.string FF] (fun _=>True) (fun _=>False) rfl rfl (kUs_mk _ _ _ _ _ _) (fun _ hk=>hk.elim) (fun _ _=>trivial) (Kd.R_mono hOd.out (fun _ _=>trivial)) hBd.out (below_size hBd.out) HUL.out ?_;intro v1 w14 ho hb hg hat;have HO14:=z0 ho;have HB14:=z0 hb;clear ho hb hg hat))
              go_roundg g1
              case measure=>omega
              case rel=>exact ⟨i+1,(by first|rfl|simp),⟨by omega⟩,⟨by rw [HSK.out,←HFN.out];exact HO14.out⟩,HB14,⟨below_step HB3.out HB14.out⟩⟩
             |succ g=>
              obtain rfl:d=(g:Int):=by omega
              have hgL:g<NP+1:=by have:=hd.out.2;omega
              have hg0:(0:Int)≤(g:Int):=by omega
              have hwd:wrap64 ((g:Int)-1)=(g:Int)-1:=OScan.wr (by omega) (by omega)
              obtain ⟨x,hx⟩:∃x,D[g]? =some x:=⟨_,List.getElem?_eq_getElem (by rw [HDE.out.2.1];exact hgL)⟩
              obtain ⟨ad21,hA21,hxc⟩:=str_at (Kd.R_reads' hDD.out).2.2 g (by rw [HDE.out.2.1];exact hgL) x hx
              obtain rfl:=hA21
              rw [Nat.mul_one] at hxc
              have hxs:=HDE.out.2.2 x (List.mem_of_getElem? hx)
              have H51x:=H51.out x hxs
              have HDR:Aside0 (D.drop g=x::D.drop (g+1)):=⟨by
               obtain ⟨h1,h2⟩:=List.getElem?_eq_some_iff.1 hx
               rw [List.drop_eq_getElem_cons h1,h2]⟩
              obtain ⟨jj,hjj⟩:∃jj,jj=joinR x nm:=⟨_,rfl⟩
              rw [←hjj] at H51x
              have HST:Aside0 (fgoN files ((D.drop g).map fun d=>joinR d nm)=if jj.2=true∧0≤findN files jj.1 then jj.1 else fgoN files ((D.drop (g+1)).map fun d=>joinR d nm)):=⟨by rw [HDR.out,List.map_cons,fgoN,←hjj]⟩
              clear hjj hx hxs
              obtain ⟨jr,jb⟩:=jj
              simp only at H51x
              obtain ⟨FF,hFF⟩:∃FF,FF=fgoN files ((D.drop (g+1)).map fun d=>joinR d nm):=⟨_,rfl⟩
              rw [←hFF] at HST hX
              clear hFF hd hd' f0 f1 f2
              cases jb with
              |false=>
               have HST':Aside0 (fgoN files ((D.drop g).map fun d=>joinR d nm)=FF):=⟨by rw [HST.out,if_neg (fun h=>by cases h.1)]⟩
               go_wp2_with (go_at_call 51;go_loud (refine (H51x _).mono ?_;rintro e w11 ⟨rfl,hdr⟩;have hbl:=hdr.below;have HX11:=z0 (blk_below hX.out hbl);have HD11:=z0 (Kd.R_below hDD.out hbl);have HO11:=z0 (Kd.R_below hOd.out hbl);have HB11:=z0 (below_step hBd.out hbl);clear hbl hdr))
               go_roundg g
               case measure=>omega
               case rel=>exact ⟨(g:Int)-1,(by first|rfl|rw [hwd]),⟨rfl,by omega⟩,⟨by rw [HST'.out];exact HX11.out⟩,HD11,HO11,HB11⟩
              |true=>
               by_cases h0:0≤findN files jr
               · have hr0:decide (findN files jr≥0)=true:=decide_eq_true h0
                 have HST':Aside0 (fgoN files ((D.drop g).map fun d=>joinR d nm)=jr):=⟨by rw [HST.out,if_pos ⟨rfl,h0⟩]⟩
                 go_wp2_with (first|(go_at_call 51;go_loud (refine (H51x _).mono ?_;rintro e w11 ⟨rfl,hdr⟩;have hbl:=hdr.below;have HX11:=z0 (blk_below hX.out hbl);have HD11:=z0 (Kd.R_below hDD.out hbl);have HO11:=z0 (Kd.R_below hOd.out hbl);have HB11:=z0 (below_step hBd.out hbl);clear hbl hdr))|(go_at_call 24;go_loud (refine (H24.out jr _ (below_step HB3.out HB11.out)).mono ?_;rintro e w12 ⟨rfl,hbl⟩;have HX12:=z0 (blk_below HX11.out hbl);have HD12:=z0 (Kd.R_below HD11.out hbl);have HO12:=z0 (Kd.R_below HO11.out hbl);have HB12:=z0 (below_step HB11.out hbl);have y2:=blk_cell HX12.out 2;have y3:=blk_frozen HX12.out 2;simp only [List.getElem?_toArray,List.getElem?_cons_zero,List.getElem?_cons_succ] at y2;clear hbl)))
                 go_roundg g
                 case measure=>omega
                 case rel=>exact ⟨(g:Int)-1,(by first|rfl|rw [hwd]),⟨rfl,by omega⟩,⟨by rw [HST'.out];exact blk_put HX12.out 2 (.string jr) rfl⟩,⟨Kd.R_far HD12.out (fun k hk e=>by have e':k=W8.heap.size:=e;omega) _⟩,⟨Kd.R_far HO12.out (fun k hk e=>hk e) _⟩,⟨HB12.out.setCell HW8.out _⟩⟩
               · have hr0:decide (findN files jr≥0)=false:=decide_eq_false h0
                 have HST':Aside0 (fgoN files ((D.drop g).map fun d=>joinR d nm)=FF):=⟨by rw [HST.out,if_neg (fun h=>h0 h.2)]⟩
                 go_wp2_with (first|(go_at_call 51;go_loud (refine (H51x _).mono ?_;rintro e w11 ⟨rfl,hdr⟩;have hbl:=hdr.below;have HX11:=z0 (blk_below hX.out hbl);have HD11:=z0 (Kd.R_below hDD.out hbl);have HO11:=z0 (Kd.R_below hOd.out hbl);have HB11:=z0 (below_step hBd.out hbl);clear hbl hdr))|(go_at_call 24;go_loud (refine (H24.out jr _ (below_step HB3.out HB11.out)).mono ?_;rintro e w12 ⟨rfl,hbl⟩;have HX12:=z0 (blk_below HX11.out hbl);have HD12:=z0 (Kd.R_below HD11.out hbl);have HO12:=z0 (Kd.R_below HO11.out hbl);have HB12:=z0 (below_step HB11.out hbl);have y2:=blk_cell HX12.out 2;have y3:=blk_frozen HX12.out 2;simp only [List.getElem?_toArray,List.getElem?_cons_zero,List.getElem?_cons_succ] at y2;clear hbl)))
                 go_roundg g
                 case measure=>omega
                 case rel=>exact ⟨(g:Int)-1,(by first|rfl|rw [hwd]),⟨rfl,by omega⟩,⟨by rw [HST'.out];exact HX12.out⟩,HD12,HO12,HB12⟩
         |succ g5=>
          have hlt:decide ((b:Int)<(m:Int))=true:=decide_eq_true (by omega)
          have hbm:b<m:=by omega
          have hbb:(0:Int)≤(b:Int):=by omega
          obtain ⟨p,hp⟩:∃p,OF[b]? =some p:=⟨_,List.getElem?_eq_getElem (by rw [←HM.out];exact hbm)⟩
          obtain ⟨ad7,hA7,hp0,hp1⟩:=ip_at (by have h:=Kd.C_below HC7.out hB8.out;rwa [HM.out] at h) b (by rw [←HM.out];exact hbm) p hp
          obtain rfl:=hA7
          have HTK:Aside0 ((OF.take (b+1)).all (fun p=>p.2==0)=((OF.take b).all (fun p=>p.2==0)&&(p.2==0))):=⟨by rw [take_snoc OF b p hp,List.all_append];simp⟩
          clear hp
          generalize hal:(OF.take b).all (fun p=>p.2==0)=al at *
          clear hal
          cases al with
          |true=>
           go_wp2_with (fail)
           go_roundg g5
           case measure=>omega
           case rel=>exact ⟨b+1,(by first|rfl|simp),(by rw [HTK.out];rfl),⟨by omega⟩,(by first|exact hB8|exact ⟨pw_below_drewN hB8.out _⟩)⟩
          |false=>
           go_wp2_with (fail)
           go_roundg g5
           case measure=>omega
           case rel=>exact ⟨b+1,(by first|rfl|simp),(by rw [HTK.out];rfl),⟨by omega⟩,(by first|exact hB8|exact ⟨pw_below_drewN hB8.out _⟩)⟩
   · have hb:(e2==0)=false:=beq_eq_false_iff_ne.mpr h2
     have hb':(e2 !=0)=true:=bne_iff_ne.mpr h2
     have HER:Aside0 (erR s=e2∧usN files ps name s=[]):=⟨by
      have:erR s=e2:=by unfold erR;rw [if_neg (by rw [←HE1.out];decide)];exact HE2.out.symm
      exact ⟨this,by unfold usN;rw [this,if_pos h2]⟩⟩
     clear h2 H50 H48
     go_enter Tryz.func25,Tryz.ntmps25
     go_wp2_with (first|(go_at_call 46;go_loud (refine (H46 _).mono ?_;rintro e w3 ⟨v3,rfl,hR,hb3⟩;obtain ⟨A3,c3,rfl⟩:=Kd.R_slice hR;have hq:=Kd.R_reads' hR;rw [←HN.out] at hq ⊢;have HC3:=z0 hq.2.2;have HL3:=z0 hq.2.1;have HB3:=z0 hb3;have hy0:=(hb3.cell (World.block_lt_of_cell? _ _ hx0)).trans hx0;clear hR hb3 hq))|(go_at_call 47;go_loud (refine (H47 _ A3 c3 HC3.out HL3.out).mono ?_;rintro e w4 ⟨v4,x4,og,rfl,hog,hR4,hb4⟩;have HB4:=z0 hb4;have hz0:=(hb4.cell (World.block_lt_of_cell? _ _ hy0)).trans hy0;clear hR4 hb4 hog)))
     go_ret2
     rw [HER.out.1,HER.out.2]
     exact ⟨_,rfl,Kd.R_nil _ _ _ _ _,below_step HB3.out HB4.out⟩
 · have hb:(e1==0)=false:=beq_eq_false_iff_ne.mpr h1
   have hb':(e1 !=0)=true:=bne_iff_ne.mpr h1
   have HER:Aside0 (erR s=e1∧usN files ps name s=[]):=⟨by
    have:erR s=e1:=by unfold erR;rw [←HE1.out,if_pos h1]
    exact ⟨this,by unfold usN;rw [this,if_pos h1]⟩⟩
   clear h1 H47 H50 H48
   go_enter Tryz.func25,Tryz.ntmps25
   go_wp2_with (go_at_call 46;go_loud (refine (H46 _).mono ?_;rintro e w3 ⟨v3,rfl,hR,hb3⟩;obtain ⟨A3,c3,rfl⟩:=Kd.R_slice hR;rw [←HN.out];have HB3:=z0 hb3;clear hR hb3))
   go_ret2
   rw [HER.out.1,HER.out.2]
   exact ⟨_,rfl,Kd.R_nil _ _ _ _ _,HB3.out⟩
end Go.Proofs.YtolaiebjmhieiaaGreatDoor.OScan
end
section
namespace Go.Proofs.YtolaiebjmhieiaaGreatDoor.Graph
section
variable {α:Type}{er:α→Int}{us:α→List α}
theorem walk_det {n:α}{met out:List α}{e:Int}{met' out':List α}(h:Walk er us n met out e met' out'):∀e2 met2 out2,Walk er us n met out e2 met2 out2→e=e2∧met'=met2∧out'=out2:=by
 refine Walk.rec (motive_1:=fun n met out e met' out' _=>∀e2 met2 out2,Walk er us n met out e2 met2 out2→e=e2∧met'=met2∧out'=out2)
  (motive_2:=fun ns met out e met' out' _=>∀e2 met2 out2,Walks er us ns met out e2 met2 out2→e=e2∧met'=met2∧out'=out2) ?_ ?_ ?_ ?_ ?_ ?_ h
 · intro n met out hn e2 met2 out2 h2
   cases h2 with
   |met _=>exact ⟨rfl,rfl,rfl⟩
   |bad h _=>exact absurd hn h
   |go h _ _=>exact absurd hn h
 · intro n met out hn he e2 met2 out2 h2
   cases h2 with
   |met h=>exact absurd h hn
   |bad _ _=>exact ⟨rfl,rfl,rfl⟩
   |go _ h _=>exact absurd h he
 · intro n met out met' out' e hn he _ ih e2 met2 out2 h2
   cases h2 with
   |met h=>exact absurd h hn
   |bad _ h=>exact absurd he h
   |go _ _ h=>
    obtain ⟨h1,h2,h3⟩:=ih _ _ _ h
    exact ⟨h1,h2,by rw [h3]⟩
 · intro met out e2 met2 out2 h2
   cases h2
   exact ⟨rfl,rfl,rfl⟩
 · intro n ns met out met' out' e _ he ih e2 met2 out2 h2
   cases h2 with
   |err h _=>exact ih _ _ _ h
   |cons h _=>exact absurd (ih _ _ _ h).1 he
 · intro n ns met out met' out' met'' out'' e _ _ ih1 ih2 e2 met2 out2 h2
   cases h2 with
   |err h h0=>exact absurd (ih1 _ _ _ h).1.symm h0
   |cons h k=>
    obtain ⟨_,h2,h3⟩:=ih1 _ _ _ h
    subst h2 h3
    exact ih2 _ _ _ k
theorem Walks.snoc {ns:List α}{n:α}{met out:List α}{met' out':List α}(h:Walks er us ns met out 0 met' out'):∀{e:Int} {met'' out'':List α},Walk er us n met' out' e met'' out''→Walks er us (ns++[n]) met out e met'' out'':=by
 induction ns generalizing met out with
 |nil=>
  intro e met'' out'' k
  cases h
  by_cases he:e=0
  · subst he;exact .cons k .nil
  · exact .err k he
 |cons a l ih=>
  intro e met'' out'' k
  cases h with
  |err _ h0=>exact absurd rfl h0
  |cons h1 h2=>exact .cons h1 (ih h2 k)
theorem Walks.stop {ns ms:List α}{n:α}{met out met' out':List α}(h:Walks er us ns met out 0 met' out'):∀{e:Int} {met'' out'':List α},Walk er us n met' out' e met'' out''→e≠0→Walks er us (ns++n::ms) met out e met'' out'':=by
 induction ns generalizing met out with
 |nil=>
  intro e met'' out'' k he
  cases h
  exact .err k he
 |cons a l ih=>
  intro e met'' out'' k he
  cases h with
  |err _ h0=>exact absurd rfl h0
  |cons h1 h2=>exact .cons h1 (ih h2 k he)
end
end Go.Proofs.YtolaiebjmhieiaaGreatDoor.Graph
end
section
namespace Go.Proofs.YtolaiebjmhieiaaGreatDoor.OScan
open Go.RowKit YtolaiebjmhieiaaGreatDoorW.PrintWords YtolaiebjmhieiaaGreatDoorW.PrintLast YtolaiebjmhieiaaGreatDoorW.PrintMore
theorem findN_iff {files:List Fl}{m:AL}(hm:openF files=(0,some m))(x:ByteArray):(alGet m x).isSome=true↔0≤findN files x:=by
 obtain ⟨h1,h2⟩:=open_get hm
 have hl:=(openF_files hm).2
 rcases (r_find files x (by omega)).2 with ⟨e,hn⟩|⟨j,f,e,hj,hf,_⟩
 · constructor
   · intro h
     obtain ⟨u,hu⟩:=Option.isSome_iff_exists.1 h
     obtain ⟨f,hf,h3,_⟩:=h1 x u hu
     exact absurd h3 (hn f hf)
   · intro h;omega
 · constructor
   · intro _;omega
   · intro _
     have:=h2 f (List.mem_of_getElem? hj)
     rwa [hf] at this
theorem filesGo_fresh:∀(files:List Fl) (m0 m:AL),filesGo m0 files=some m→(∀f∈files,(alGet m0 f.1).isSome=false)∧files.Pairwise (fun f g=>f.1≠g.1)
 |[],m0,m,_=>⟨fun f hf=>(by cases hf),.nil⟩
 |f::l,m0,m,h=>by
  unfold filesGo at h
  split at h
  · cases h
  · rename_i h0
    obtain ⟨h1,h2⟩:=filesGo_fresh l _ m h
    have hf:∀g∈l,f.1≠g.1:=fun g hg e=>by
     have:=h1 g hg
     rw [alGet_put,if_pos ((MapKept.bytes_beq _ _).2 e.symm)] at this
     cases this
    refine ⟨fun g hg=> ?_,List.pairwise_cons.2 ⟨hf,h2⟩⟩
    rcases List.mem_cons.1 hg with rfl|hg
    · simpa using h0
    · have:=h1 g hg
      rw [alGet_put,if_neg (fun e=>hf g hg ((MapKept.bytes_beq _ _).1 e).symm)] at this
      exact this
theorem names_inj {files:List Fl}{m:AL}(hm:openF files=(0,some m)){i j:Nat}{f g:Fl}(hi:files[i]? =some f)(hj:files[j]? =some g)(e:f.1=g.1):i=j:=by
 have hp:=(filesGo_fresh files [] m (openF_files hm).1).2
 rw [List.pairwise_iff_getElem] at hp
 obtain ⟨h1,e1⟩:=List.getElem?_eq_some_iff.1 hi
 obtain ⟨h2,e2⟩:=List.getElem?_eq_some_iff.1 hj
 rcases Nat.lt_trichotomy i j with h|h|h
 · exact absurd (by rw [e1,e2];exact e) (hp i j h1 h2 h)
 · exact h
 · exact absurd (by rw [e1,e2];exact e.symm) (hp j i h2 h1 h)
theorem find_at {files:List Fl}{m:AL}(hm:openF files=(0,some m)){k:Nat}{f:Fl}(hf:files[k]? =some f):findN files f.1=k:=by
 have hl:=(openF_files hm).2
 rcases (r_find files f.1 (by omega)).2 with ⟨_,hn⟩|⟨j,g,e,hj,hg,_⟩
 · exact absurd rfl (hn f (List.mem_of_getElem? hf))
 · rw [e,names_inj hm hj hf hg]
theorem text_at {files:List Fl}{m:AL}(hm:openF files=(0,some m)){k:Nat}{f:Fl}(hf:files[k]? =some f):txtOf m f.1=f.2:=by
 obtain ⟨h1,h2⟩:=open_get hm
 obtain ⟨u,hu⟩:=Option.isSome_iff_exists.1 (h2 f (List.mem_of_getElem? hf))
 obtain ⟨g,hg,h3,rfl⟩:=h1 f.1 u hu
 obtain ⟨j,hj⟩:=List.getElem?_of_mem hg
 have:=names_inj hm hj hf h3
 subst this
 rw [hj] at hf
 obtain rfl:=Option.some.inj hf
 unfold txtOf;rw [hu]
theorem fgo_eq {files:List Fl}{m:AL}(hm:openF files=(0,some m)):∀js,fgoN files js=findGo m js
 |[]=>rfl
 |j::js=>by
  rw [fgoN,findGo,fgo_eq hm js]
  by_cases h:j.2=true∧0≤findN files j.1
  · rw [if_pos h,if_pos ⟨h.1,(findN_iff hm _).2 h.2⟩]
  · rw [if_neg h,if_neg (fun e=>h ⟨e.1,(findN_iff hm _).1 e.2⟩)]
theorem us_eq {files:List Fl}{m:AL}(hm:openF files=(0,some m))(ps:List ByteArray){k:Nat}{f:Fl}(hf:files[k]? =some f):usN files ps f.1 f.2=usR m ps f.1:=by
 unfold usR usT usN
 rw [text_at hm hf]
 have:filesN files ps f.1 f.2=filesR m ps f.1 f.2:=by
  funext i
  unfold filesN filesR findR
  cases incsR f.2 i with
  |none=>rfl
  |some nq=>exact fgo_eq hm _
 rw [this]
theorem er_eq {files:List Fl}{m:AL}(hm:openF files=(0,some m)){k:Nat}{f:Fl}(hf:files[k]? =some f):erN m f.1=erR f.2:=by
 unfold erN;rw [text_at hm hf]
structure GN (files:List Fl)(w0 w:World)(SB cS:Nat)(bl:List Bool)(v:Value)(met out:List ByteArray):Prop where
 below:Below w0.heap.size w0 w
 seen:Kd.R Kd.bool 4 w w0.heap.size (fun _=>True) (.slice (some ⟨SB,0,none⟩) files.length cS) bl
 isin:∀(i:Nat) (f:Fl),files[i]? =some f→∃b,bl[i]? =some b∧(b=true↔f.1∈met)
 out:Kd.R Kd.string 9 w w0.heap.size (fun _=>True) v out
def KeepT (w w':World):Prop:=w.heap.size≤w'.heap.size∧∀(k:Nat) (c:Array Value) (t:TypeId),w.heap[k]? =some (Obj.cells c t (0,0))→t≠4→t≠9→w'.heap[k]? =some (Obj.cells c t (0,0))
theorem KeepT.refl (w:World):KeepT w w:=⟨Nat.le_refl _,fun _ _ _ h _ _=>h⟩
theorem KeepT.trans {w w1 w2:World}(h:KeepT w w1)(k:KeepT w1 w2):KeepT w w2:=⟨Nat.le_trans h.1 k.1,fun b c t hc h1 h2=>k.2 b c t (h.2 b c t hc h1 h2) h1 h2⟩
theorem KeepT.of_below {w w1:World}(h:Below w.heap.size w w1):KeepT w w1:=⟨h.size,fun k c t hc _ _=>(h.block k (blk_lt hc)).trans hc⟩
theorem GN.step {files:List Fl}{w0 w w1:World}{SB cS:Nat}{bl:List Bool}{v:Value}{met out:List ByteArray}(h:GN files w0 w SB cS bl v met out)(hb:Below w.heap.size w w1):GN files w0 w1 SB cS bl v met out:=
 ⟨below_step h.below hb,Kd.R_below h.seen hb,h.isin,Kd.R_below h.out hb⟩
theorem GN.mark {files:List Fl}{m:AL}(hm:openF files=(0,some m)){w0 w:World}{SB cS:Nat}{bl:List Bool}{v:Value}{met out:List ByteArray}(h:GN files w0 w SB cS bl v met out){k:Nat}{f:Fl}(hf:files[k]? =some f):
 GN files w0 (w.setCell ⟨SB,k,none⟩ (.bool true)) SB cS (bl.set k true) v (f.1::met) out∧KeepT w (w.setCell ⟨SB,k,none⟩ (.bool true))∧(∃b,w.cell? ⟨SB,k,none⟩=some (.bool b))∧w.frozen? ⟨SB,k,none⟩=false:=by
 obtain ⟨cS,hS⟩:=Kd.R_typed h.seen SB rfl
 have hbase:=Kd.R_base h.seen SB rfl
 have hlen:=(Kd.R_reads' h.seen).1
 have hk:=(List.getElem?_eq_some_iff.1 hf).1
 have hput:=(Kd.R_putg h.seen (k:Int) true).1
 obtain ⟨cx,_,hMx,hcx,hfx⟩:=Kd.R_elem h.seen false (k:Int) (by omega) (by omega)
 obtain rfl:=hMx
 have c0:=hcx 0 _ rfl
 refine ⟨⟨h.below.setCell hbase _,hput,fun i g hi=> ?_,Kd.R_set h.out hS (by decide) _ _⟩,⟨by simp,fun b c t hc h1 h2=> ?_⟩,⟨_,by simpa [Kd.bool,Kd.scalar] using c0⟩,by have:=hfx 0;simpa [Kd.bool,Kd.scalar] using this⟩
 · obtain ⟨b,hb,hbm⟩:=h.isin i g hi
   by_cases e:k=i
   · subst e
     rw [hf] at hi
     obtain rfl:=Option.some.inj hi
     exact ⟨true,by rw [List.getElem?_set_self (by rw [←hlen];exact hk)],fun _=>List.mem_cons_self,fun _=>rfl⟩
   · refine ⟨b,by rw [List.getElem?_set_ne e];exact hb,?_⟩
     rw [hbm,List.mem_cons]
     constructor
     · exact .inr
     · rintro (h3|h3)
       · exact absurd (names_inj hm hf hi h3.symm) e
       · exact h3
 · have hne:b≠SB:=fun e=>by subst e;exact blk_ty hc hS h1
   exact (Below.heap_setCell w ⟨SB,k,none⟩ _ b hne).trans hc
theorem GN.end_ {files:List Fl}{w0 w w1:World}{SB cS:Nat}{bl:List Bool}{v v1:Value}{met out:List ByteArray}{n:ByteArray}(h:GN files w0 w SB cS bl v met out)(ho:Kd.R Kd.string 9 w1 w0.heap.size (fun _=>True) v1 (out++[n]))(hb:Below w0.heap.size w0 w1)(hg:w.grownBy w1 v.ownBlock):
 GN files w0 w1 SB cS bl v1 met (out++[n])∧KeepT w w1:=by
 refine ⟨⟨hb,Kd.R_grown2 h.seen rfl hg (fun k hk e=> ?_),h.isin,ho⟩,⟨hg.size,fun k c t hc h1 h2=> ?_⟩⟩
 · obtain ⟨c1,e1⟩:=Kd.R_typed h.out k hk
   obtain ⟨c2,e2⟩:=Kd.R_typed h.seen k e.symm
   exact blk_ty e1 e2 (by decide)
 · refine (hg.block k (blk_lt hc) (fun e=> ?_)).trans hc
   obtain ⟨c1,e1⟩:=Kd.R_typed h.out k e.symm
   exact blk_ty hc e1 h2
def GoneQ (files:List Fl)(us:ByteArray→List Us)(er:ByteArray→Int)(w0 w:World)(SB cS:Nat)(name:ByteArray)(met out:List ByteArray)(e:Ending)(w':World):Prop:=
 ∃(v':Value) (er':Int) (met' out':List ByteArray) (bl':List Bool),e= .returned (.tuple #[v',.int .i64 er'])∧Graph.Walk er (fun n=>fsOf (us n)) name met out er' met' out'∧(er'=0→GN files w0 w' SB cS bl' v' met' out')∧(er'≠0→v'= .slice none 0 0)∧Below w0.heap.size w0 w'∧KeepT w w'
theorem fsOf_snoc (u:Us):∀l:List Us,fsOf (l++[u])=if u.2.2.toList=[] then fsOf l else fsOf l++[u.2.2]
 |[]=>by
  simp only [List.nil_append,fsOf]
 |x::l=>by
  rw [List.cons_append,fsOf,fsOf,fsOf_snoc u l]
  split<;>split<;>rfl
theorem fsOf_app:∀a b:List Us,fsOf (a++b)=fsOf a++fsOf b
 |[],b=>rfl
 |x::a,b=>by
  rw [List.cons_append,fsOf,fsOf,fsOf_app a b]
  split<;>rfl
theorem fsOf_has:∀{l:List Us} {u:Us},u∈l→u.2.2.toList≠[]→u.2.2∈fsOf l
 |x::l,u,h,hne=>by
  rw [fsOf]
  rcases List.mem_cons.1 h with rfl|h
  · rw [if_neg hne];exact List.mem_cons_self
  · split
    · exact fsOf_has h hne
    · exact List.mem_cons_of_mem _ (fsOf_has h hne)
theorem R_keepT {w w':World}{b:Nat}{ok:Nat→Prop}{v:Value}{xs:List Us}(h:Kd.R kUs 33 w b ok v xs)(k:KeepT w w'):Kd.R kUs 33 w' b ok v xs:=by
 refine Kd.R_mono (Kd.R_move (Kd.R_bound h) (fun j hj=> ?_)) (fun _ hk=>hk.1)
 obtain ⟨_,_,_,q,hq,c,hc⟩:=hj
 obtain rfl:q=33:=by
  rcases List.mem_cons.1 hq with h|h
  · exact h
  · rw [show kUs.E=[] from rfl] at h;cases h
 rw [hc]
 exact k.2 j c 33 hc (by decide) (by decide)
theorem rGone_any {files:List Fl}{ps:List ByteArray}{A Ap:Option Addr}{c cp:Nat}{w0:World}{m:AL}(H:ArgsOK w0 files ps A Ap c cp)(hcp:ps.length≤cp)(hm:openF files=(0,some m)):
 ∀(d k:Nat) (f:Fl) (w:World) (SB cS:Nat) (bl:List Bool) (v:Value) (met out:List ByteArray),files[k]? =some f→f.1∉met→Graph.left (files.map (·.1)) met≤d→out.length+Graph.left (files.map (·.1)) met≤1000→GN files w0 w SB cS bl v met out→
  Calls Tryz.prog 27 #[.slice A files.length c,.int .i64 (k:Int),.slice Ap ps.length cp,.slice (some ⟨SB,0,none⟩) files.length cS,v] w (GoneQ files (usR m ps) (erN m) w0 w SB cS f.1 met out):=by
 intro d
 induction d with
 |zero=>
  intro k f w SB cS bl v met out hf hn hd hl S
  have:=Graph.left_cons (List.mem_map.2 ⟨f,List.mem_of_getElem? hf,rfl⟩:f.1∈files.map (·.1)) hn
  omega
 |succ d ih=>
  intro k f w SB cS bl v met out hf hn hd hl S
  obtain ⟨S1,K1,⟨b0,hb0⟩,hfz⟩:=S.mark hm hf
  have hleft:=Graph.left_cons (List.mem_map.2 ⟨f,List.mem_of_getElem? hf,rfl⟩:f.1∈files.map (·.1)) hn
  obtain ⟨A4,c4,rfl⟩:=Kd.R_slice S.out
  have H25:Aside0 (∀W:World,Below w0.heap.size w0 W→Calls Tryz.prog 25 #[.slice A files.length c,.int .i64 (k:Int),.slice Ap ps.length cp] W fun e w'=>∃v,e= .returned (.tuple #[v,.int .i64 (erN m f.1)])∧Kd.R kUs 33 w' W.heap.size (fun _=>True) v (usR m ps f.1)∧Below W.heap.size W w'):=⟨fun W hb=>by
   have h1:ArgsOK W files ps A Ap c cp:=⟨H.glob.below hb,Kd.C_below H.fc hb,H.fl,Kd.C_below H.pc hb,H.hA,H.npl,H.nfl,H.fsz,H.psz⟩
   have h:=rUses_any h1 hcp k f hf
   rw [us_eq hm ps hf,←er_eq hm hf] at h
   exact h⟩
  have H24:Aside0 (∀(nm:ByteArray) (W:World),Below w0.heap.size w0 W→Calls Tryz.prog 24 #[.slice A files.length c,.string nm] W fun e w'=>e= .returned (.int .i64 (findN files nm))∧Below W.heap.size W w'):=⟨fun nm W hb=>rFind_any files nm W A c (Kd.C_below H.fc hb) H.fl (by have:=H.nfl;omega)⟩
  have hkl:=(List.getElem?_eq_some_iff.1 hf).1
  have HFC:Aside0 (∃ad,A=some ad∧∀W,Below w0.heap.size w0 W→W.cell? (ad.add (k*2))=some (.string f.1)):=⟨by
   obtain ⟨ad,e,h1,_⟩:=fl_at H.fc k hkl f hf
   exact ⟨ad,e,fun W hb=>(hb.cell (World.block_lt_of_cell? _ _ h1)).trans h1⟩⟩
  obtain ⟨ad,rfl,hnc⟩:=HFC.out
  have HNC:=z0 hnc
  have HIH:Aside0 (∀(k:Nat) (f:Fl) (w:World) (SB cS:Nat) (bl:List Bool) (v:Value) (met out:List ByteArray),files[k]? =some f→f.1∉met→Graph.left (files.map (·.1)) met≤d→out.length+Graph.left (files.map (·.1)) met≤1000→GN files w0 w SB cS bl v met out→
   Calls Tryz.prog 27 #[.slice (some ad) files.length c,.int .i64 (k:Int),.slice Ap ps.length cp,.slice (some ⟨SB,0,none⟩) files.length cS,v] w (GoneQ files (usR m ps) (erN m) w0 w SB cS f.1 met out)):=⟨ih⟩
  have HH:=z0 H
  have HM:=z0 hm
  have HF:=z0 hf
  have HN:=z0 hn
  have HS1:=z0 S1
  have HK1:=z0 K1
  have HLL:=z0 (And.intro hleft (And.intro hd hl))
  obtain ⟨NF,hNF⟩:∃NF,NF=files.length:=⟨_,rfl⟩
  have HNF:=z0 hNF
  rw [←hNF] at hkl H25 H24 HIH ⊢
  obtain ⟨o4,ho4⟩:∃o4,o4=out.length:=⟨_,rfl⟩
  rw [←ho4]
  have HO4:=z0 ho4
  have hk0:(0:Int)≤(k:Int):=by omega
  have hk1:(k:Int)<(NF:Int):=by omega
  clear ih H hm hf hn S S1 K1 hleft hd hl hnc HFC hNF ho4
  by_cases he:erN m f.1=0
  · have HE:=z0 he
    have H25':∀W:World,Below w0.heap.size w0 W→Calls Tryz.prog 25 #[.slice (some ad) NF c,.int .i64 (k:Int),.slice Ap ps.length cp] W fun e w'=>∃v,e= .returned (.tuple #[v,.int .i64 0])∧Kd.R kUs 33 w' W.heap.size (fun _=>True) v (usR m ps f.1)∧Below W.heap.size W w':=fun W hb=>by have h:=H25.out W hb;rwa [he] at h
    obtain ⟨U,hU⟩:∃U,U=usR m ps f.1:=⟨_,rfl⟩
    rw [←hU] at H25'
    obtain ⟨NU,hNU⟩:∃NU,NU=U.length:=⟨_,rfl⟩
    have hnu:NU≤1000000:=by rw [hNU,hU];exact (HH.out.env HM.out 0 0 0).len f.1
    have HU:=z0 hU
    have HNU:=z0 hNU
    replace H25':=z0 H25'
    clear he hU hNU H25
    go_enter Tryz.func27,Tryz.ntmps27
    go_wp2_with (go_at_call 25;go_loud (refine (H25'.out _ HS1.out.below).mono ?_;rintro e w3 ⟨v12,rfl,hR,hb3⟩;obtain ⟨A12,c12,e12⟩:=Kd.R_slice hR;rw [←HNU.out] at e12;subst e12;have HR12:=z0 hR;have HB3:=z0 hb3;clear hR hb3))
    have HG3:Aside0 (GN files w0 w3 SB cS (bl.set k true) (.slice A4 o4 c4) (f.1::met) out):=⟨by have h:=HS1.out.step HB3.out;rwa [←HO4.out] at h⟩
    have HK3:Aside0 (KeepT w w3):=⟨HK1.out.trans (KeepT.of_below HB3.out)⟩
    go_loopg [4,13,14,15] NU (fun kq v4 v13 v14 v15 w'=>∃(i:Nat) (met1 out1:List ByteArray) (bl1:List Bool),v13= .int .i64 0∧v14= .int .i64 i∧Aside0 (kq+i=NU)∧Aside0 (Graph.Walks (erN m) (fun n=>fsOf (usR m ps n)) (fsOf (U.take i)) (f.1::met) out 0 met1 out1)∧Aside0 (GN files w0 w' SB cS bl1 v4 met1 out1)∧Aside0 (KeepT w3 w'))
    case atStart=>exact ⟨0,f.1::met,out,bl.set k true,rfl,rfl,⟨rfl⟩,⟨.nil⟩,HG3,⟨KeepT.refl _⟩⟩
    case round=>
     obtain ⟨i,met1,out1,bl1,rfl,rfl,hki,hW,hG,hKT⟩:=hrel
     have hki':=hki.out
     obtain ⟨hsub,hlen⟩:=Graph.walks_len (erN m) (fun n=>fsOf (usR m ps n)) (HH.out.env HM.out 0 0 0).in_ _ _ _ _ _ _ hW.out (fun y hy=>(HH.out.env HM.out 0 0 0).in_ f.1 y (by
      obtain ⟨u,h1,h2,h3⟩:=fsOf_mem hy
      have h4:=List.mem_of_mem_take h1
      rw [HU.out] at h4
      rw [←h2];exact fsOf_has h4 (by rw [h2];exact h3)))
     have hleft1:Graph.left (files.map (·.1)) met1≤d:=by
      have h1:=Graph.left_mono (names:=files.map (·.1)) hsub
      have h2:=HLL.out.1
      have h3:=HLL.out.2.1
      omega
     have hlen1:out1.length+Graph.left (files.map (·.1)) met1≤1000:=by have h2:=HLL.out.1;have h3:=HLL.out.2.2;omega
     have HL1:=z0 (And.intro hleft1 hlen1)
     clear hsub hlen hleft1 hlen1
     obtain ⟨A5,c5,e5⟩:=Kd.R_slice hG.out.out
     obtain ⟨o5,ho5⟩:∃o5,o5=out1.length:=⟨_,rfl⟩
     rw [←ho5] at e5
     subst e5
     have HO5:=z0 ho5
     clear ho5
     cases gk with
     |zero=>
      obtain rfl:i=NU:=by omega
      have hlt:decide ((i:Int)<(i:Int))=false:=decide_eq_false (by omega)
      have hW':Aside0 (Graph.Walks (erN m) (fun n=>fsOf (usR m ps n)) (fsOf (usR m ps f.1)) (f.1::met) out 0 met1 out1):=⟨by
       have h:=hW.out
       rw [List.take_of_length_le (by rw [HNU.out];exact Nat.le_refl _),HU.out] at h
       exact h⟩
      have hnc:=HNC.out wr hG.out.below
      go_wp2_with (at_builtin;go_loud (refine Kd.R_append Kd.string (w0:=w0) w0.heap.size rfl (.tmp 66) (.tmp 72) 23 9 (.string ⟨#[]⟩) 16 rfl under23 (by kernel_rfl) rfl (by decide) (by omega) (.slice A5 o5 c5) out1 f.1 [.string f.1] (fun _=>True) (fun _=>False) rfl rfl rfl (fun _ hk=>hk.elim) (fun _ _=>trivial) hG.out.out hG.out.below (below_size hG.out.below) ?aL ?_;(case aL=>have:=HL1.out.2;omega);intro v1 w6 ho hb6 hg6 _;have HE6:=z0 (GN.end_ hG.out ho hb6 hg6);clear ho hb6 hg6))
      go_ret2
      exact ⟨_,_,_,_,bl1,rfl,.go HN.out HE.out hW'.out,fun _=>HE6.out.1,fun h=>absurd rfl h,HE6.out.1.below,HK3.out.trans (hKT.out.trans HE6.out.2)⟩
     |succ g1=>
      have hlt:decide ((i:Int)<(NU:Int))=true:=decide_eq_true (by omega)
      have hin:i<NU:=by omega
      have hii:(0:Int)≤(i:Int):=by omega
      obtain ⟨u,hu⟩:∃u,U[i]? =some u:=⟨_,List.getElem?_eq_getElem (by rw [←HNU.out];exact hin)⟩
      have hCu:Kd.C kUs wr A12 NU U:=by have h:=(Kd.R_reads' (R_keepT HR12.out hKT.out)).2.2;rwa [←HNU.out] at h
      obtain ⟨ad12,hA12,hu0,hu1,hu2⟩:=us_at hCu i hin u hu
      obtain rfl:=hA12
      have htk:=take_snoc U i u hu
      have hfs:=fsOf_snoc u (U.take i)
      rw [←htk] at hfs
      have HUM:Aside0 (u∈usR m ps f.1):=⟨by rw [←HU.out];exact List.mem_of_getElem? hu⟩
      clear hu hCu htk
      obtain ⟨u1,u2,u3⟩:=u
      simp only at hu0 hu1 hu2 hfs
      have H24x:=fun W hb=>H24.out u3 W hb
      by_cases hz:u3.toList=([]:List UInt8)
      · have hz':(u3.toList==([]:List UInt8))=true:=beq_iff_eq.mpr hz
        rw [if_pos hz] at hfs
        have hW2:Aside0 (Graph.Walks (erN m) (fun n=>fsOf (usR m ps n)) (fsOf (U.take (i+1))) (f.1::met) out 0 met1 out1):=⟨by rw [hfs];exact hW.out⟩
        clear hz hfs
        go_wp2_with (go_at_call 24;go_loud (refine (H24x _ hG.out.below).mono ?_;rintro e w5 ⟨rfl,hb5⟩;have HG5:=z0 (hG.out.step hb5);have HK5:=z0 (hKT.out.trans (KeepT.of_below hb5));have hu2':=(hb5.cell (World.block_lt_of_cell? _ _ hu2)).trans hu2;clear hb5))
        go_roundg g1
        case measure=>omega
        case rel=>exact ⟨i+1,met1,out1,bl1,rfl,(by first|rfl|simp),⟨by omega⟩,hW2,HG5,HK5⟩
      · have hz':(u3.toList==([]:List UInt8))=false:=beq_eq_false_iff_ne.mpr hz
        rw [if_neg hz] at hfs
        have hsome:(alGet m u3).isSome=true:=usR_in m ps f.1 (u1,u2,u3) HUM.out hz
        have h0:=(findN_iff HM.out u3).1 hsome
        have hfl:=(openF_files HM.out).2
        obtain ⟨jn,g,ejn,hj,hg1,_⟩:∃(j:Nat) (f:Fl),findN files u3=j∧files[j]? =some f∧f.1=u3∧∀i,i<j→∀g,files[i]? =some g→g.1≠u3:=by
         rcases (r_find files u3 (by omega)).2 with ⟨e,_⟩|h
         · omega
         · exact h
        subst hg1
        have hjl:=(List.getElem?_eq_some_iff.1 hj).1
        rw [←HNF.out] at hjl
        obtain ⟨b,hbj,hbm⟩:=hG.out.isin jn g hj
        have hj0:(0:Int)≤(jn:Int):=by omega
        have hj1:(jn:Int)<(NF:Int):=by omega
        have hcell:∀W:World,GN files w0 W SB cS bl1 (.slice A5 o5 c5) met1 out1→W.cell? ⟨SB,jn,none⟩=some (.bool b):=fun W h=>by
         have hs:=h.seen
         obtain ⟨cx,_,hMx,hcx,_⟩:=Kd.R_elem hs false (jn:Int) (by omega) (by rw [←HNF.out];omega)
         obtain rfl:=hMx
         have:=hcx 0 _ rfl
         rw [Int.toNat_natCast,List.getD_eq_getElem?_getD,hbj] at this
         simpa [Kd.bool,Kd.scalar] using this
        have HCELL:=z0 hcell
        have HJ:=z0 hj
        have HBM:=z0 hbm
        have HFS:=z0 hfs
        have H24y:∀W:World,Below w0.heap.size w0 W→Calls Tryz.prog 24 #[.slice (some ad) NF c,.string g.1] W fun e w'=>e= .returned (.int .i64 (jn:Int))∧Below W.heap.size W w':=fun W hb=>by rw [←ejn];exact H24.out g.1 W hb
        clear hz hfs hsome h0 ejn hbj hcell hj hbm H24x
        cases b with
        |true=>
         have hW2:Aside0 (Graph.Walks (erN m) (fun n=>fsOf (usR m ps n)) (fsOf (U.take (i+1))) (f.1::met) out 0 met1 out1):=⟨by rw [HFS.out];exact hW.out.snoc (.met (HBM.out.1 rfl))⟩
         go_wp2_with (go_at_call 24;go_loud (refine (H24y _ hG.out.below).mono ?_;rintro e w5 ⟨rfl,hb5⟩;have HG5:=z0 (hG.out.step hb5);have HK5:=z0 (hKT.out.trans (KeepT.of_below hb5));have hu2':=(hb5.cell (World.block_lt_of_cell? _ _ hu2)).trans hu2;have hs5:=HCELL.out _ HG5.out;clear hb5))
         go_roundg g1
         case measure=>omega
         case rel=>exact ⟨i+1,met1,out1,bl1,rfl,(by first|rfl|simp),⟨by omega⟩,hW2,HG5,HK5⟩
        |false=>
         have HNM:Aside0 (g.1∉met1):=⟨fun h=>by have:=HBM.out.2 h;cases this⟩
         have H27:=fun W (hS:GN files w0 W SB cS bl1 (.slice A5 o5 c5) met1 out1)=>HIH.out jn g W SB cS bl1 (.slice A5 o5 c5) met1 out1 HJ.out HNM.out HL1.out.1 HL1.out.2 hS
         replace H27:=z0 H27
         go_wp2_with (first|(go_at_call 24;go_loud (refine (H24y _ hG.out.below).mono ?_;rintro e w5 ⟨rfl,hb5⟩;have HG5:=z0 (hG.out.step hb5);have HK5:=z0 (hKT.out.trans (KeepT.of_below hb5));have hu2':=(hb5.cell (World.block_lt_of_cell? _ _ hu2)).trans hu2;have hs5:=HCELL.out _ HG5.out;clear hb5))|(go_at_call 27;go_loud (refine (H27.out _ HG5.out).mono ?_;rintro e w6 ⟨v6,e6,met6,out6,bl6,rfl,hw6,hg6,hv6,hb6,hk6⟩;have HW6:=z0 hw6;have HG6:=z0 hg6;have HV6:=z0 hv6;have HB6:=z0 hb6;have HK6:=z0 (HK5.out.trans hk6);clear hw6 hg6 hv6 hb6 hk6)))
         · rename_i h5
           have h5':e6≠0:=by simpa using h5
           have HST:Aside0 (Graph.Walks (erN m) (fun n=>fsOf (usR m ps n)) (fsOf (usR m ps f.1)) (f.1::met) out e6 met6 out6):=⟨by
            have e1:fsOf (usR m ps f.1)=fsOf (U.take i)++g.1::fsOf (U.drop (i+1)):=by
             rw [←HU.out]
             conv=>lhs;rw [←List.take_append_drop (i+1) U]
             rw [fsOf_app,HFS.out,List.append_assoc];rfl
            rw [e1]
            exact hW.out.stop HW6.out h5'⟩
           go_ret2
           exact ⟨_,e6,met6,out6++[f.1],[],rfl,.go HN.out HE.out HST.out,fun h=>absurd h h5',fun _=>rfl,HB6.out,HK3.out.trans HK6.out⟩
         · rename_i h5
           have h5':e6=0:=by simpa using h5
           subst h5'
           have hW2:Aside0 (Graph.Walks (erN m) (fun n=>fsOf (usR m ps n)) (fsOf (U.take (i+1))) (f.1::met) out 0 met6 out6):=⟨by rw [HFS.out];exact hW.out.snoc HW6.out⟩
           go_roundg g1
           case measure=>omega
           case rel=>exact ⟨i+1,met6,out6,bl6,rfl,(by first|rfl|simp),⟨by omega⟩,hW2,⟨HG6.out rfl⟩,HK6⟩
  · have hb:(erN m f.1==0)=false:=beq_eq_false_iff_ne.mpr he
    have hb':(erN m f.1 !=0)=true:=bne_iff_ne.mpr he
    have HE:=z0 he
    clear he
    go_enter Tryz.func27,Tryz.ntmps27
    go_wp2_with (go_at_call 25;go_loud (refine (H25.out _ HS1.out.below).mono ?_;rintro e w3 ⟨v12,rfl,hR,hb3⟩;have HB3:=z0 hb3;clear hR hb3))
    go_ret2
    exact ⟨_,_,_,_,[],rfl,.bad HN.out HE.out,fun h=>absurd h HE.out,fun _=>rfl,below_step HS1.out.below HB3.out,HK1.out.trans (KeepT.of_below HB3.out)⟩
end Go.Proofs.YtolaiebjmhieiaaGreatDoor.OScan
end
section
namespace Go.Proofs.YtolaiebjmhieiaaGreatDoor.ORef
open Go.RowKit YtolaiebjmhieiaaGreatDoorW.PrintWords YtolaiebjmhieiaaGreatDoorW.PrintLast YtolaiebjmhieiaaGreatDoorW.PrintMore
attribute [local go_sem] max2_int min2_int max_two min_two max_three min_three max_four min_four
def smockingref21_named.l0:Nat→List ByteArray→Int→Option (Bool)
 |0,_,_=>none
 |k+1,x3,x4=>if x4<(x3.length:Int) then (if 0≤x4 then (if (rdOf ByteArray.empty x3 x4).toList=([]:List UInt8) then (some false) else (if (rdOf ByteArray.empty x3 x4).toList=([46]:List UInt8) then (some false) else (if (rdOf ByteArray.empty x3 x4).toList=([46,46]:List UInt8) then (some false) else (smockingref21_named.l0 k x3 (wrap64 (x4+1)))))) else (none)) else (some true)
def smockingref21_named.f (k:Nat)(a0:ByteArray):Option (Bool):=(smockingref21_split.f k a0).bind fun t234=>(smockingref21_named.l0 k t234 0)
theorem smockingref21_named.calls (k:Nat)(a0:ByteArray)(r:Bool)(w:World)(h:smockingref21_named.f k a0=some r):
 Calls Tryz.prog 45 #[.string a0] w fun e w'=>e= .returned (.bool r)∧Below w.heap.size w w':=by
 have HB:=z0 (Below.refl w.heap.size w)
 have H:=h
 clear h
 unfold smockingref21_named.f at H
 replace H:=zo H
 obtain ⟨t234,A2,H⟩:=H
 (try dsimp only at H)
 have H':=z0 H
 clear H
 go_enter Tryz.func45,Tryz.ntmps45
 go_wp2_with (first|(refine zc 6 rfl Tryz.func80 #[.string a0] ?_;(with_reducible refine (smockingref21_split.calls k a0 t234 _ A2.out).mono ?_);rintro e w3 ⟨v235,rfl,ho0,hb⟩;refine ⟨_,rfl,?_⟩;have n0_:=z0 (Kd.R_lower ho0 (below_size zw));have n1_:=z0 (below_step zw hb);revert n0_ n1_;clear HB;intro HO236 HB;(try clear hb);(try clear hk);(try clear hi);(try clear ho0)))
 (try go_simp)
 go_loopg [4] k (fun kq v4 w'=>∃(x4_1:Int),v4= .int .i64 x4_1∧Aside0 (smockingref21_named.l0 kq t234 x4_1=some r)∧Aside0 (kq≤k)∧Aside0 (Kd.R Kd.string 9 w' w.heap.size (fun _=>True) v235 t234)∧Aside0 (Below w.heap.size w w'))
 case atStart=>exact ⟨(0),zr,H',⟨Nat.le_refl _⟩,⟨by (with_reducible repeat (first|apply Kd.R_alloc|apply Kd.R_drewN|apply Kd.R_drew));exact HO236.out⟩,⟨zw⟩⟩
 case round=>
  clear H'
  (try clear p2)
  obtain ⟨x4_1,rfl,HA,HK1,HO_3,HB⟩:=hrel
  cases gk with
  |zero=>exact absurd HA.out (by simp [smockingref21_named.l0])
  |succ k1=>
   have H:=HA.out
   clear HA
   simp only [smockingref21_named.l0] at H
   replace H:=zd H
   rcases H with ⟨c4b0,H⟩|⟨c4b0,H⟩
   · replace H:=zdn H
     obtain ⟨c5b0,H⟩:=H
     replace H:=zE H
     rcases H with ⟨c6b0,c6b1,H⟩|⟨c6b0,c6b1,H⟩
     · obtain rfl:=Option.some.inj H
       obtain ⟨Ao7,co7,eo7⟩:=Kd.R_slice HO_3.out
       subst eo7
       have p237:0≤(x4_1:Int):=of_decide_eq_true (by first|(with_reducible assumption)|assumption)
       have q237:x4_1<(t234.length:Int):=of_decide_eq_true (by first|(with_reducible assumption)|assumption)
       obtain ⟨ad237,e237,hx237_0⟩:=Kd.at_string (Kd.R_reads' HO_3.out).2.2 x4_1 p237 q237
       cases e237
       replace p237:=eq_true p237
       replace q237:=eq_true q237
       go_wp2
       go_ret
       exact ⟨zv,zw⟩
     · replace H:=zE H
       rcases H with ⟨c8b0,c8b1,H⟩|⟨c8b0,c8b1,H⟩
       · obtain rfl:=Option.some.inj H
         obtain ⟨Ao9,co9,eo9⟩:=Kd.R_slice HO_3.out
         subst eo9
         have p237:0≤(x4_1:Int):=of_decide_eq_true (by first|(with_reducible assumption)|assumption)
         have q237:x4_1<(t234.length:Int):=of_decide_eq_true (by first|(with_reducible assumption)|assumption)
         obtain ⟨ad237,e237,hx237_0⟩:=Kd.at_string (Kd.R_reads' HO_3.out).2.2 x4_1 p237 q237
         cases e237
         replace p237:=eq_true p237
         replace q237:=eq_true q237
         have p238:0≤(x4_1:Int):=of_decide_eq_true (by first|(with_reducible assumption)|assumption)
         have q238:x4_1<(t234.length:Int):=of_decide_eq_true (by first|(with_reducible assumption)|assumption)
         obtain ⟨ad238,e238,hx238_0⟩:=Kd.at_string (Kd.R_reads' HO_3.out).2.2 x4_1 p238 q238
         obtain rfl:ad237=ad238:=(by injection e238)
         replace p238:=eq_true p238
         replace q238:=eq_true q238
         go_wp2
         go_ret
         exact ⟨zv,zw⟩
       · replace H:=zE H
         rcases H with ⟨c10b0,c10b1,H⟩|⟨c10b0,c10b1,H⟩
         · obtain rfl:=Option.some.inj H
           obtain ⟨Ao11,co11,eo11⟩:=Kd.R_slice HO_3.out
           subst eo11
           have p237:0≤(x4_1:Int):=of_decide_eq_true (by first|(with_reducible assumption)|assumption)
           have q237:x4_1<(t234.length:Int):=of_decide_eq_true (by first|(with_reducible assumption)|assumption)
           obtain ⟨ad237,e237,hx237_0⟩:=Kd.at_string (Kd.R_reads' HO_3.out).2.2 x4_1 p237 q237
           cases e237
           replace p237:=eq_true p237
           replace q237:=eq_true q237
           have p238:0≤(x4_1:Int):=of_decide_eq_true (by first|(with_reducible assumption)|assumption)
           have q238:x4_1<(t234.length:Int):=of_decide_eq_true (by first|(with_reducible assumption)|assumption)
           obtain ⟨ad238,e238,hx238_0⟩:=Kd.at_string (Kd.R_reads' HO_3.out).2.2 x4_1 p238 q238
           obtain rfl:ad237=ad238:=(by injection e238)
           replace p238:=eq_true p238
           replace q238:=eq_true q238
           have p239:0≤(x4_1:Int):=of_decide_eq_true (by first|(with_reducible assumption)|assumption)
           have q239:x4_1<(t234.length:Int):=of_decide_eq_true (by first|(with_reducible assumption)|assumption)
           obtain ⟨ad239,e239,hx239_0⟩:=Kd.at_string (Kd.R_reads' HO_3.out).2.2 x4_1 p239 q239
           obtain rfl:ad237=ad239:=(by injection e239)
           replace p239:=eq_true p239
           replace q239:=eq_true q239
           go_wp2
           go_ret
           exact ⟨zv,zw⟩
         · have H':=z0 H
           clear H
           obtain ⟨Ao12,co12,eo12⟩:=Kd.R_slice HO_3.out
           subst eo12
           have p237:0≤(x4_1:Int):=of_decide_eq_true (by first|(with_reducible assumption)|assumption)
           have q237:x4_1<(t234.length:Int):=of_decide_eq_true (by first|(with_reducible assumption)|assumption)
           obtain ⟨ad237,e237,hx237_0⟩:=Kd.at_string (Kd.R_reads' HO_3.out).2.2 x4_1 p237 q237
           cases e237
           replace p237:=eq_true p237
           replace q237:=eq_true q237
           have p238:0≤(x4_1:Int):=of_decide_eq_true (by first|(with_reducible assumption)|assumption)
           have q238:x4_1<(t234.length:Int):=of_decide_eq_true (by first|(with_reducible assumption)|assumption)
           obtain ⟨ad238,e238,hx238_0⟩:=Kd.at_string (Kd.R_reads' HO_3.out).2.2 x4_1 p238 q238
           obtain rfl:ad237=ad238:=(by injection e238)
           replace p238:=eq_true p238
           replace q238:=eq_true q238
           have p239:0≤(x4_1:Int):=of_decide_eq_true (by first|(with_reducible assumption)|assumption)
           have q239:x4_1<(t234.length:Int):=of_decide_eq_true (by first|(with_reducible assumption)|assumption)
           obtain ⟨ad239,e239,hx239_0⟩:=Kd.at_string (Kd.R_reads' HO_3.out).2.2 x4_1 p239 q239
           obtain rfl:ad237=ad239:=(by injection e239)
           replace p239:=eq_true p239
           replace q239:=eq_true q239
           go_wp2
           go_roundg k1
           case measure=>have:=HK1.out;omega
           case rel=>exact ⟨(wrap64 (x4_1+1)),zr,H',⟨by have:=HK1.out;omega⟩,⟨by (with_reducible repeat (first|apply Kd.R_alloc|apply Kd.R_drewN|apply Kd.R_drew));exact HO_3.out⟩,⟨zw⟩⟩
   · obtain rfl:=Option.some.inj H
     obtain ⟨Ao13,co13,eo13⟩:=Kd.R_slice HO_3.out
     subst eo13
     go_wp2
     go_ret
     exact ⟨zv,zw⟩
mutual
def smockingref21_listed.l0:Nat→List (S46)→Int→Option (Int)
 |0,_,_=>none
 |k+1,x0,x3=>if x3<(x0.length:Int) then (if 0≤x3 then ((smockingref21_named.f k ((rd_T46 x0 x3).f0)).bind fun t241=>(if t241=true then (smockingref21_listed.l0 k x0 (wrap64 (x3+1))) else (some 3))) else (none)) else (smockingref21_listed.l1 k x0 0)
def smockingref21_listed.l1:Nat→List (S46)→Int→Option (Int)
 |0,_,_=>none
 |k+1,x0,x4=>if x4<(x0.length:Int) then (if 0≤x4 then ((smockingref21_find.f k x0 ((rd_T46 x0 x4).f0)).bind fun t243=>(if t243=x4 then (smockingref21_listed.l1 k x0 (wrap64 (x4+1))) else (some 5))) else (none)) else (some 0)
end
def smockingref21_listed.f (k:Nat)(l0:List (S46)):Option (Int):=if (l0.length:Int)>60 then (some 2) else (smockingref21_listed.l0 k l0 0)
theorem smockingref21_listed.calls (k:Nat)(A0:Option Addr)(c0:Nat)(l0:List (S46))(r:Int)(w:World)(hr0:Kd.C k46 w A0 l0.length l0)(hc0:l0.length≤c0)(h:smockingref21_listed.f k l0=some r):
 Calls Tryz.prog 23 #[.slice A0 l0.length c0] w fun e w'=>e= .returned (.int .i64 r)∧Below w.heap.size w w':=by
 have HR0:=z0 hr0
 have HC0:=z0 hc0
 clear hr0 hc0
 have HB:=z0 (Below.refl w.heap.size w)
 have H:=h
 clear h
 unfold smockingref21_listed.f at H
 by_cases c2:(l0.length:Int)>60
 · rw [if_pos c2] at H
   have c2b0:decide (60<(l0.length:Int))=true:=decide_eq_true c2
   have c2b1:decide (60<l0.length)=true:=decide_eq_true (by omega)
   clear c2
   obtain rfl:=Option.some.inj H
   go_enter Tryz.func23,Tryz.ntmps23
   go_wp2
   go_ret
   exact ⟨zv,zw⟩
 · rw [if_neg c2] at H
   have c2b0:decide (60<(l0.length:Int))=false:=decide_eq_false c2
   have c2b1:decide (60<l0.length)=false:=decide_eq_false (by omega)
   clear c2
   have H':=z0 H
   clear H
   go_enter Tryz.func23,Tryz.ntmps23
   go_wp2
   (try go_simp)
   go_loopg [3] k (fun kq v3 w'=>∃(x3_1:Int),v3= .int .i64 x3_1∧Aside0 (smockingref21_listed.l0 kq l0 x3_1=some r)∧Aside0 (kq≤k)∧Aside0 (Below w.heap.size w w'))
   case atStart=>exact ⟨(0),zr,H',⟨Nat.le_refl _⟩,⟨zw⟩⟩
   case round=>
    clear H'
    (try clear c2);(try clear c2b0);(try clear c2b1);(try clear p2)
    obtain ⟨x3_1,rfl,HA,HK1,HB⟩:=hrel
    cases gk with
    |zero=>exact absurd HA.out (by simp [smockingref21_listed.l0])
    |succ k1=>
     have H:=HA.out
     clear HA
     simp only [smockingref21_listed.l0] at H
     replace H:=zd H
     rcases H with ⟨c3b0,H⟩|⟨c3b0,H⟩
     · replace H:=zdn H
       obtain ⟨c4b0,H⟩:=H
       replace H:=zo H
       obtain ⟨t241,A5,H⟩:=H
       (try dsimp only at H)
       by_cases c6:t241=true
       · subst c6
         rw [if_pos rfl] at H
         have H':=z0 H
         clear H
         have p240:0≤(x3_1:Int):=of_decide_eq_true (by first|(with_reducible assumption)|assumption)
         have q240:x3_1<(l0.length:Int):=of_decide_eq_true (by first|(with_reducible assumption)|assumption)
         obtain ⟨ad240,e240,hx240_0,hx240_1⟩:=at_T46 HR0.out x3_1 p240 q240
         cases e240
         replace hx240_0:=(HB.out.cell (World.block_lt_of_cell? w _ hx240_0)).trans hx240_0
         replace hx240_1:=(HB.out.cell (World.block_lt_of_cell? w _ hx240_1)).trans hx240_1
         replace p240:=eq_true p240
         replace q240:=eq_true q240
         go_wp2_with (first|(refine zc 19 rfl Tryz.func45 #[.string ((rd_T46 l0 x3_1).f0)] ?_;(with_reducible refine (smockingref21_named.calls k1 ((rd_T46 l0 x3_1).f0) true _ A5.out).mono ?_);rintro e w7 ⟨rfl,hb⟩;refine ⟨_,rfl,?_⟩;have n0_:=z0 (below_step zw hb);revert n0_;clear HB;intro HB;(try clear hb);(try clear hk);(try clear hi)))
         go_roundg k1
         case measure=>have:=HK1.out;omega
         case rel=>exact ⟨(wrap64 (x3_1+1)),zr,H',⟨by have:=HK1.out;omega⟩,⟨zw⟩⟩
       · replace c6:=Bool.eq_false_iff.mpr c6
         subst c6
         rw [if_neg nofun] at H
         obtain rfl:=Option.some.inj H
         have p240:0≤(x3_1:Int):=of_decide_eq_true (by first|(with_reducible assumption)|assumption)
         have q240:x3_1<(l0.length:Int):=of_decide_eq_true (by first|(with_reducible assumption)|assumption)
         obtain ⟨ad240,e240,hx240_0,hx240_1⟩:=at_T46 HR0.out x3_1 p240 q240
         cases e240
         replace hx240_0:=(HB.out.cell (World.block_lt_of_cell? w _ hx240_0)).trans hx240_0
         replace hx240_1:=(HB.out.cell (World.block_lt_of_cell? w _ hx240_1)).trans hx240_1
         replace p240:=eq_true p240
         replace q240:=eq_true q240
         go_wp2_with (first|(refine zc 19 rfl Tryz.func45 #[.string ((rd_T46 l0 x3_1).f0)] ?_;(with_reducible refine (smockingref21_named.calls k1 ((rd_T46 l0 x3_1).f0) false _ A5.out).mono ?_);rintro e w8 ⟨rfl,hb⟩;refine ⟨_,rfl,?_⟩;have n0_:=z0 (below_step zw hb);revert n0_;clear HB;intro HB;(try clear hb);(try clear hk);(try clear hi)))
         go_ret
         exact ⟨zv,zw⟩
     · have H':=z0 H
       clear H
       go_wp2
       (try go_simp)
       go_loopg [4] k1 (fun kq v4 w'=>∃(x4_2:Int),v4= .int .i64 x4_2∧Aside0 (smockingref21_listed.l1 kq l0 x4_2=some r)∧Aside0 (kq≤k1)∧Aside0 (Below w.heap.size w w'))
       case atStart=>exact ⟨(0),zr,H',⟨Nat.le_refl _⟩,⟨zw⟩⟩
       case round=>
        clear H'
        (try clear c2);(try clear c2b0);(try clear c2b1);(try clear p2);(try clear q2);(try clear hx2);(try clear c3);(try clear c3b0);(try clear c4);(try clear c4b0);(try clear c6);(try clear p6);(try clear hx240_0);(try clear hx240_1);(try clear p2);(try clear p240);(try clear q240)
        obtain ⟨x4_2,rfl,HA,HK2,HB⟩:=hrel
        cases gk with
        |zero=>exact absurd HA.out (by simp [smockingref21_listed.l1])
        |succ k2=>
         have H:=HA.out
         clear HA
         simp only [smockingref21_listed.l1] at H
         replace H:=zd H
         rcases H with ⟨c9b0,H⟩|⟨c9b0,H⟩
         · replace H:=zdn H
           obtain ⟨c10b0,H⟩:=H
           replace H:=zo H
           obtain ⟨t243,A11,H⟩:=H
           (try dsimp only at H)
           replace H:=ze H
           rcases H with ⟨c12b0,c12b1,H⟩|⟨c12b0,c12b1,H⟩
           · have H':=z0 H
             clear H
             have p242:0≤(x4_2:Int):=of_decide_eq_true (by first|(with_reducible assumption)|assumption)
             have q242:x4_2<(l0.length:Int):=of_decide_eq_true (by first|(with_reducible assumption)|assumption)
             obtain ⟨ad242,e242,hx242_0,hx242_1⟩:=at_T46 HR0.out x4_2 p242 q242
             cases e242
             replace hx242_0:=(HB.out.cell (World.block_lt_of_cell? w _ hx242_0)).trans hx242_0
             replace hx242_1:=(HB.out.cell (World.block_lt_of_cell? w _ hx242_1)).trans hx242_1
             replace p242:=eq_true p242
             replace q242:=eq_true q242
             go_wp2_with (first|(refine zc 33 rfl Tryz.func24 #[.slice (some ad242) l0.length c0,.string ((rd_T46 l0 x4_2).f0)] ?_;(with_reducible refine (smockingref21_find.calls k2 _ _ l0 ((rd_T46 l0 x4_2).f0) t243 _ ?side1 ?side2 A11.out).mono ?_);(case side1=>repeat (first|exact (Kd.C_below HR0.out HB.out)|(with_reducible refine Kd.C_alloc ?_ _)|(with_reducible refine Kd.C_drewN ?_ _)|(with_reducible refine Kd.C_drew ?_)));(case side2=>exact HC0.out);rintro e w' ⟨rfl,⟨nd,rfl⟩⟩;refine ⟨_,rfl,?_⟩))
             go_roundg k2
             case measure=>have:=HK1.out;have:=HK2.out;omega
             case rel=>exact ⟨(wrap64 (x4_2+1)),zr,H',⟨by have:=HK1.out;have:=HK2.out;omega⟩,⟨zw⟩⟩
           · obtain rfl:=Option.some.inj H
             have p242:0≤(x4_2:Int):=of_decide_eq_true (by first|(with_reducible assumption)|assumption)
             have q242:x4_2<(l0.length:Int):=of_decide_eq_true (by first|(with_reducible assumption)|assumption)
             obtain ⟨ad242,e242,hx242_0,hx242_1⟩:=at_T46 HR0.out x4_2 p242 q242
             cases e242
             replace hx242_0:=(HB.out.cell (World.block_lt_of_cell? w _ hx242_0)).trans hx242_0
             replace hx242_1:=(HB.out.cell (World.block_lt_of_cell? w _ hx242_1)).trans hx242_1
             replace p242:=eq_true p242
             replace q242:=eq_true q242
             go_wp2_with (first|(refine zc 33 rfl Tryz.func24 #[.slice (some ad242) l0.length c0,.string ((rd_T46 l0 x4_2).f0)] ?_;(with_reducible refine (smockingref21_find.calls k2 _ _ l0 ((rd_T46 l0 x4_2).f0) t243 _ ?side1 ?side2 A11.out).mono ?_);(case side1=>repeat (first|exact (Kd.C_below HR0.out HB.out)|(with_reducible refine Kd.C_alloc ?_ _)|(with_reducible refine Kd.C_drewN ?_ _)|(with_reducible refine Kd.C_drew ?_)));(case side2=>exact HC0.out);rintro e w' ⟨rfl,⟨nd,rfl⟩⟩;refine ⟨_,rfl,?_⟩))
             go_ret
             exact ⟨zv,zw⟩
         · obtain rfl:=Option.some.inj H
           go_wp2
           go_ret
           exact ⟨zv,zw⟩
def smockingref00_EqStrings.l0:Nat→List ByteArray→List ByteArray→Int→Option (Bool)
 |0,_,_,_=>none
 |k+1,x0,x1,x5=>if x5<(x0.length:Int) then (if 0≤x5 then (if x5<(x1.length:Int) then (if (rdOf ByteArray.empty x0 x5).toList=(rdOf ByteArray.empty x1 x5).toList then (smockingref00_EqStrings.l0 k x0 x1 (wrap64 (x5+1))) else (some false)) else (none)) else (none)) else (some true)
def smockingref00_EqStrings.f (k:Nat)(l0:List ByteArray)(l1:List ByteArray):Option (Bool):=if (l0.length:Int)=(l1.length:Int) then (smockingref00_EqStrings.l0 k l0 l1 0) else (some false)
theorem smockingref00_EqStrings.calls (k:Nat)(A0:Option Addr)(c0:Nat)(l0:List ByteArray)(A1:Option Addr)(c1:Nat)(l1:List ByteArray)(r:Bool)(w:World)(hr0:Kd.C Kd.string w A0 l0.length l0)(hc0:l0.length≤c0)(hr1:Kd.C Kd.string w A1 l1.length l1)(hc1:l1.length≤c1)(h:smockingref00_EqStrings.f k l0 l1=some r):
 Calls Tryz.prog 13 #[.slice A0 l0.length c0,.slice A1 l1.length c1] w fun e w'=>e= .returned (.bool r)∧Drawn0 w w':=by
 have HR0:=z0 hr0
 have HC0:=z0 hc0
 clear hr0 hc0
 have HR1:=z0 hr1
 have HC1:=z0 hc1
 clear hr1 hc1
 have H:=h
 clear h
 unfold smockingref00_EqStrings.f at H
 by_cases c3:(l0.length:Int)=(l1.length:Int)
 · rw [if_pos c3] at H
   have c3b0:((l0.length:Int)==(l1.length:Int))=true:=beq_iff_eq.mpr c3
   have c3b1:((l0.length:Int) !=(l1.length:Int))=false:=bne_eq_false_iff_eq.mpr c3
   have c3b2:(l0.length==l1.length)=true:=by first|simpa using c3|(simp at c3 ⊢;omega)
   clear c3
   have H':=z0 H
   clear H
   go_enter Tryz.func13,Tryz.ntmps13
   go_wp2
   repeat (go_quiet (fail);try go_wp2)
   (try go_simp)
   go_loopg [5] k (fun kq v5 w'=>∃(x5_1:Int),v5= .int .i64 x5_1∧Aside0 (smockingref00_EqStrings.l0 kq l0 l1 x5_1=some r)∧Aside0 (kq≤k)∧Drawn0 w w')
   case atStart=>exact ⟨(0),zr,H',⟨Nat.le_refl _⟩,zq⟩
   case round=>
    clear H'
    (try clear c1);(try clear p2);(try clear c3);(try clear c3b0);(try clear c3b1);(try clear c3b2)
    obtain ⟨x5_1,rfl,HA,HK1,⟨m1,rfl⟩⟩:=hrel
    cases gk with
    |zero=>exact absurd HA.out (by simp [smockingref00_EqStrings.l0])
    |succ k1=>
     have H:=HA.out
     clear HA
     simp only [smockingref00_EqStrings.l0] at H
     replace H:=zd H
     rcases H with ⟨c4b0,H⟩|⟨c4b0,H⟩
     · replace H:=zdn H
       obtain ⟨c5b0,H⟩:=H
       replace H:=zdn H
       obtain ⟨c6b0,H⟩:=H
       replace H:=zE H
       rcases H with ⟨c7b0,c7b1,H⟩|⟨c7b0,c7b1,H⟩
       · have H':=z0 H
         clear H
         have p249:0≤(x5_1:Int):=of_decide_eq_true (by first|(with_reducible assumption)|assumption)
         have q249:x5_1<(l0.length:Int):=of_decide_eq_true (by first|(with_reducible assumption)|assumption)
         obtain ⟨ad249,e249,hx249_0⟩:=Kd.at_string HR0.out x5_1 p249 q249
         cases e249
         replace p249:=eq_true p249
         replace q249:=eq_true q249
         have p250:0≤(x5_1:Int):=of_decide_eq_true (by first|(with_reducible assumption)|assumption)
         have q250:x5_1<(l1.length:Int):=of_decide_eq_true (by first|(with_reducible assumption)|assumption)
         obtain ⟨ad250,e250,hx250_0⟩:=Kd.at_string HR1.out x5_1 p250 q250
         cases e250
         replace p250:=eq_true p250
         replace q250:=eq_true q250
         go_wp2
         repeat (go_quiet (fail);try go_wp2)
         go_roundg k1
         case measure=>have:=HK1.out;omega
         case rel=>exact ⟨(wrap64 (x5_1+1)),zr,H',⟨by have:=HK1.out;omega⟩,zq⟩
       · obtain rfl:=Option.some.inj H
         have p249:0≤(x5_1:Int):=of_decide_eq_true (by first|(with_reducible assumption)|assumption)
         have q249:x5_1<(l0.length:Int):=of_decide_eq_true (by first|(with_reducible assumption)|assumption)
         obtain ⟨ad249,e249,hx249_0⟩:=Kd.at_string HR0.out x5_1 p249 q249
         cases e249
         replace p249:=eq_true p249
         replace q249:=eq_true q249
         have p250:0≤(x5_1:Int):=of_decide_eq_true (by first|(with_reducible assumption)|assumption)
         have q250:x5_1<(l1.length:Int):=of_decide_eq_true (by first|(with_reducible assumption)|assumption)
         obtain ⟨ad250,e250,hx250_0⟩:=Kd.at_string HR1.out x5_1 p250 q250
         cases e250
         replace p250:=eq_true p250
         replace q250:=eq_true q250
         go_wp2
         repeat (go_quiet (fail);try go_wp2)
         go_ret
         exact ⟨zr,zq⟩
     · obtain rfl:=Option.some.inj H
       go_wp2
       repeat (go_quiet (fail);try go_wp2)
       go_ret
       exact ⟨zr,zq⟩
 · rw [if_neg c3] at H
   have c3b0:((l0.length:Int)==(l1.length:Int))=false:=beq_eq_false_iff_ne.mpr c3
   have c3b1:((l0.length:Int) !=(l1.length:Int))=true:=bne_iff_ne.mpr c3
   have c3b2:(l0.length==l1.length)=false:=by first|simpa using c3|(simp at c3 ⊢;omega)
   obtain rfl:=Option.some.inj H
   go_enter Tryz.func13,Tryz.ntmps13
   go_wp2
   repeat (go_quiet (fail);try go_wp2)
   go_ret
   exact ⟨zr,zq⟩
end Go.Proofs.YtolaiebjmhieiaaGreatDoor.ORef
end
section
namespace Go.Proofs.YtolaiebjmhieiaaGreatDoor.OScan
open Go.RowKit YtolaiebjmhieiaaGreatDoorW.PrintWords YtolaiebjmhieiaaGreatDoorW.PrintLast YtolaiebjmhieiaaGreatDoorW.PrintMore
theorem idx1 (c:UInt8):∀l:List UInt8,Lib.index l [c]=Lib.indexByte l c
 |[]=>rfl
 |b::l=>by
  rw [Lib.index,Lib.indexByte,idx1 c l]
  have:([c]:List UInt8).isPrefixOf (b::l)=(b==c):=by
   simp only [List.isPrefixOf,Bool.and_true]
   rw [Bool.eq_iff_iff,beq_iff_eq,beq_iff_eq];exact eq_comm
  rw [this]
def partsF (s:ByteArray):Nat→Nat→Nat→List ByteArray
 |0,from_,i=>[s.extract from_ i]
 |d+1,from_,i=>if bt s (i:Int)=47 then s.extract from_ i::partsF s d (i+1) (i+1) else partsF s d from_ (i+1)
theorem ext_ext (s:ByteArray)(a b c:Nat)(h:a+c≤s.size):(s.extract a s.size).extract b c=s.extract (a+b) (a+c):=by
 apply Go.WideShapes.bytes_inj
 rw [Lib.extract_data,Lib.extract_to_end,Lib.extract_data,List.drop_drop,show c-b=a+c-(a+b) by omega]
theorem ext_end (s:ByteArray)(a b:Nat):(s.extract a s.size).extract b (s.extract a s.size).size=s.extract (a+b) s.size:=by
 apply Go.WideShapes.bytes_inj
 rw [Lib.extract_to_end,Lib.extract_to_end,Lib.extract_to_end,List.drop_drop]
theorem partsF_B (s:ByteArray):∀(d from_ i:Nat),from_≤i→i+d=s.size→(∀j,from_≤j→j<i→s.data.toList[j]?≠some 47)→
 partsF s d from_ i=Lib.splitB ⟨#[47]⟩ 0 (Lib.countB (s.extract from_ s.size) ⟨#[47]⟩) (s.extract from_ s.size)
 |0,from_,i,h1,h2,hn=>by
  obtain rfl:i=s.size:=by omega
  have hm:Lib.indexB (s.extract from_ s.size) ⟨#[47]⟩= -1:=by
   show Lib.index _ [47]= -1
   rw [idx1,Lib.extract_to_end]
   exact index_miss (fun j hj=>by rw [List.getElem?_drop];rw [List.length_drop,data_length] at hj;exact hn _ (by omega) (by omega))
  rw [Lib.splitB_miss _ _ _ _ hm]
  rfl
 |d+1,from_,i,h1,h2,hn=>by
  have hi:i<s.size:=by omega
  rw [partsF]
  by_cases hb:bt s (i:Int)=47
  · have hc:=(bt_cell s i hi 47).1 hb
    have hx:Lib.indexB (s.extract from_ s.size) ⟨#[47]⟩=((i-from_:Nat):Int):=by
     show Lib.index _ [47]=_
     rw [idx1,Lib.extract_to_end]
     exact index_hit (fun j hj=>by rw [List.getElem?_drop];exact hn _ (by omega) (by omega)) (by rw [List.getElem?_drop,show from_+(i-from_)=i by omega];exact hc)
    have z1:(⟨#[47]⟩:ByteArray).size=1:=rfl
    rw [if_pos hb,Lib.countB_hit _ _ _ (by decide) hx,Nat.add_comm 1,Lib.splitB_hit _ _ _ _ _ hx,z1,ext_end,show i-from_+0=i-from_ from rfl,ext_ext s from_ 0 (i-from_) (by omega),show from_+0=from_ from rfl,show from_+(i-from_)=i by omega,show from_+(i-from_+1)=i+1 by omega]
    rw [partsF_B s d (i+1) (i+1) (Nat.le_refl _) (by omega) (fun j h3 h4=>by omega)]
  · rw [if_neg hb]
    exact partsF_B s d from_ (i+1) (by omega) (by omega) (fun j h3 h4 e=>by
     rcases Nat.lt_or_ge j i with h5|h5
     · exact hn j h3 h5 e
     · obtain rfl:j=i:=by omega
       exact hb ((bt_cell s j hi 47).2 e))
theorem partsF_all (s:ByteArray):partsF s s.size 0 0=partsB s:=by
 have:=partsF_B s s.size 0 0 (Nat.le_refl _) (by omega) (fun j h1 h2=>by omega)
 rw [this]
 unfold partsB
 rw [show s.extract 0 s.size=s from by simp]
theorem partsF_len (s:ByteArray):∀(d from_ i:Nat),(partsF s d from_ i).length≤d+1
 |0,_,_=>Nat.le_refl _
 |d+1,from_,i=>by
  rw [partsF]
  split
  · have:=partsF_len s d (i+1) (i+1);rw [List.length_cons];omega
  · have:=partsF_len s d from_ (i+1);omega
theorem r_split_l0 (s:ByteArray)(hs:s.size≤1000000):∀(d k from_ i:Nat) (out:List ByteArray),from_≤i→i+d=s.size→d+1<k→out.length≤i→ORef.smockingref21_split.l0 k s out (from_:Int) (i:Int)=some (out++partsF s d from_ i)
 |d,0,from_,i,out,_,_,hk,_=>by omega
 |0,k+1,from_,i,out,h1,h2,hk,hl=>by
  rw [ORef.smockingref21_split.l0,if_pos (by omega),if_pos (by omega),if_pos (by omega),if_pos (by omega),if_pos (by omega)]
  obtain ⟨k,rfl⟩:∃k',k=k'+1:=⟨k-1,by omega⟩
  rw [ORef.smockingref21_split.l0,wr (by omega) (by omega),if_neg (by omega)]
  rfl
 |d+1,k+1,from_,i,out,h1,h2,hk,hl=>by
  have hw:wrap64 ((i:Int)+1)=((i+1:Nat):Int):=(OScan.wr (by omega) (by omega)).trans (by omega)
  rw [ORef.smockingref21_split.l0,if_pos (by omega),if_neg (by omega),if_pos (by omega),if_pos (by omega),hw,partsF]
  by_cases hb:bt s (i:Int)=47
  · rw [if_pos hb,if_pos hb,if_pos (by omega),if_pos (by omega),if_pos (by omega),r_split_l0 s hs d k (i+1) (i+1) _ (Nat.le_refl _) (by omega) (by omega) (by rw [List.length_append,List.length_singleton];omega),List.append_assoc]
    rfl
  · rw [if_neg hb,if_neg hb]
    exact r_split_l0 s hs d k from_ (i+1) out (by omega) (by omega) (by omega) (by omega)
theorem r_split (s:ByteArray)(hs:s.size≤1000000)(k:Nat)(hk:s.size+1<k):ORef.smockingref21_split.f k s=some (partsB s):=by
 have:=r_split_l0 s hs s.size k 0 0 [] (Nat.le_refl _) (by omega) hk (by simp)
 rw [List.nil_append,partsF_all] at this
 exact this
theorem r_named_l0 (xs:List ByteArray)(hl:xs.length≤1000001):∀(d k i:Nat),i≤xs.length→xs.length-i≤d→d<k→ORef.smockingref21_named.l0 k xs (i:Int)=some (!((xs.drop i).any dotB))
 |d,0,i,_,_,hk=>by omega
 |d,k+1,i,h1,hd,hk=>by
  rw [ORef.smockingref21_named.l0]
  by_cases h:i<xs.length
  · have hrd:rdOf ByteArray.empty xs (i:Int)=xs[i]:=by
     show xs.getD (i:Int).toNat ByteArray.empty=_
     rw [List.getD_eq_getElem?_getD,show (i:Int).toNat=i from rfl,List.getElem?_eq_getElem h];rfl
    rw [if_pos (by omega),if_pos (by omega),hrd,List.drop_eq_getElem_cons h,List.any_cons,show wrap64 ((i:Int)+1)=((i+1:Nat):Int) from (OScan.wr (by omega) (by omega)).trans (by omega),r_named_l0 xs hl (d-1) k (i+1) (by omega) (by omega) (by omega)]
    unfold dotB
    by_cases q1:xs[i].toList=([]:List UInt8)
    · rw [if_pos q1,q1];rfl
    · rw [if_neg q1,beq_eq_false_iff_ne.2 q1]
      by_cases q2:xs[i].toList=([46]:List UInt8)
      · rw [if_pos q2,q2];rfl
      · rw [if_neg q2,beq_eq_false_iff_ne.2 q2]
        by_cases q3:xs[i].toList=([46,46]:List UInt8)
        · rw [if_pos q3,q3];rfl
        · rw [if_neg q3,beq_eq_false_iff_ne.2 q3];rfl
  · rw [if_neg (by omega),List.drop_eq_nil_of_le (by omega)];rfl
theorem r_named (s:ByteArray)(hs:s.size≤1000000)(k:Nat)(hk:s.size+2<k):ORef.smockingref21_named.f k s=some (isNameB s):=by
 have hl:(partsB s).length≤s.size+1:=by rw [←partsF_all];exact partsF_len s s.size 0 0
 unfold ORef.smockingref21_named.f
 rw [r_split s hs k (by omega),Option.bind_some]
 have:=r_named_l0 (partsB s) (by omega) (partsB s).length k 0 (by omega) (by omega) (by omega)
 rw [List.drop_zero] at this
 exact this
theorem find_more (files:List Fl)(name:ByteArray)(hl:files.length≤1000000):∀m,ORef.smockingref21_find.f (files.length+1+m) (files.map toS46r) name=some (findN files name)
 |0=>(r_find files name hl).1
 |m+1=>ORef.smockingref21_find.mono _ _ _ _ (find_more files name hl m)
theorem filesGo_dup:∀(files:List Fl) (m0:AL),filesGo m0 files=none→∃(i:Nat) (f:Fl),files[i]? =some f∧((alGet m0 f.1).isSome=true∨∃(j:Nat) (g:Fl),j<i∧files[j]? =some g∧g.1=f.1)
 |[],m0,h=>by cases h
 |f::l,m0,h=>by
  unfold filesGo at h
  split at h
  · rename_i h0
    exact ⟨0,f,rfl,.inl h0⟩
  · obtain ⟨i,g,hi,h1⟩:=filesGo_dup l _ h
    refine ⟨i+1,g,hi,?_⟩
    rcases h1 with h1|⟨j,g',h2,h3,h4⟩
    · rw [alGet_put] at h1
      split at h1
      · rename_i he
        exact .inr ⟨0,f,by omega,rfl,((MapKept.bytes_beq _ _).1 he).symm⟩
      · exact .inl h1
    · exact .inr ⟨j+1,g',by omega,h3,h4⟩
theorem rd46 (files:List Fl)(i:Nat)(h:i<files.length):(ORef.rd_T46 (files.map toS46r) (i:Int)).f0=files[i].1:=by
 have:ORef.rd_T46 (files.map toS46r) (i:Int)=toS46r files[i]:=by
  show (files.map toS46r).getD (i:Int).toNat _=_
  rw [Int.toNat_natCast,List.getD_eq_getElem?_getD,List.getElem?_map,List.getElem?_eq_getElem h];rfl
 rw [this];rfl
theorem listed_l1 (files:List Fl)(hl:files.length≤1000000):∀(d k i:Nat),i≤files.length→files.length-i≤d→d+files.length+1<k→
 ∃r,ORef.smockingref21_listed.l1 k (files.map toS46r) (i:Int)=some r∧((r=0∧∀(j:Nat) (f:Fl),i≤j→files[j]? =some f→findN files f.1=j)∨(r=5∧∃(j:Nat) (f:Fl),files[j]? =some f∧findN files f.1≠j))
 |d,0,i,_,_,hk=>by omega
 |d,k+1,i,h1,hd,hk=>by
  rw [ORef.smockingref21_listed.l1]
  by_cases h:i<files.length
  · have hf:=find_more files files[i].1 hl (k-(files.length+1))
    rw [show files.length+1+(k-(files.length+1))=k by omega] at hf
    rw [if_pos (by rw [List.length_map];omega),if_pos (by omega),rd46 files i h,hf,Option.bind_some,show wrap64 ((i:Int)+1)=((i+1:Nat):Int) from (OScan.wr (by omega) (by omega)).trans (by omega)]
    by_cases he:findN files files[i].1=i
    · rw [if_pos he]
      obtain ⟨r,hr,h2⟩:=listed_l1 files hl (d-1) k (i+1) (by omega) (by omega) (by omega)
      refine ⟨r,hr,?_⟩
      rcases h2 with ⟨rfl,hh⟩|h2
      · refine .inl ⟨rfl,fun j f hj hjf=> ?_⟩
        rcases Nat.lt_or_ge i j with h3|h3
        · exact hh j f h3 hjf
        · obtain rfl:j=i:=by omega
          rw [List.getElem?_eq_getElem h] at hjf
          obtain rfl:=Option.some.inj hjf
          exact he
      · exact .inr h2
    · rw [if_neg he]
      exact ⟨5,rfl,.inr ⟨rfl,i,_,List.getElem?_eq_getElem h,he⟩⟩
  · rw [if_neg (by rw [List.length_map];omega)]
    exact ⟨0,rfl,.inl ⟨rfl,fun j f hj hjf=>by have:=(List.getElem?_eq_some_iff.1 hjf).1;omega⟩⟩
theorem listed_l0 (files:List Fl)(hl:files.length≤1000000)(hs:∀f∈files,f.1.size≤4000):∀(d k i:Nat),i≤files.length→files.length-i≤d→d+2*files.length+5000<k→
 ORef.smockingref21_listed.l0 k (files.map toS46r) (i:Int)=if (files.drop i).any (fun f=> !isNameB f.1)=true then some 3 else ORef.smockingref21_listed.l1 (k-(files.length-i)-1) (files.map toS46r) 0
 |d,0,i,_,_,hk=>by omega
 |d,k+1,i,h1,hd,hk=>by
  rw [ORef.smockingref21_listed.l0]
  by_cases h:i<files.length
  · have hz:=hs files[i] (List.getElem_mem h)
    rw [if_pos (by rw [List.length_map];omega),if_pos (by omega),rd46 files i h,r_named _ (by omega) k (by omega),Option.bind_some,show wrap64 ((i:Int)+1)=((i+1:Nat):Int) from (OScan.wr (by omega) (by omega)).trans (by omega),List.drop_eq_getElem_cons h,List.any_cons]
    by_cases hb:isNameB files[i].1=true
    · rw [if_pos hb,hb,listed_l0 files hl hs (d-1) k (i+1) (by omega) (by omega) (by omega),show k-(files.length-(i+1))-1=k+1-(files.length-i)-1 by omega]
      rfl
    · rw [if_neg hb,show isNameB files[i].1=false from by simpa using hb]
      rfl
  · rw [if_neg (by rw [List.length_map];omega),List.drop_eq_nil_of_le (by omega),show k+1-(files.length-i)-1=k by omega]
    rfl
theorem r_listed (files:List Fl)(hl:files.length≤1000)(hs:∀f∈files,f.1.size≤4000):ORef.smockingref21_listed.f 20000 (files.map toS46r)=some (openF files).1:=by
 unfold ORef.smockingref21_listed.f openF
 by_cases h60:60<files.length
 · rw [if_pos (by rw [List.length_map];omega),if_pos h60]
 · rw [if_neg (by rw [List.length_map];omega),if_neg h60]
   have h0:=listed_l0 files (by omega) hs files.length 20000 0 (by omega) (by omega) (by omega)
   rw [List.drop_zero] at h0
   rw [show ((0:Nat):Int)=0 from rfl] at h0
   rw [h0]
   by_cases hb:files.any (fun f=> !isNameB f.1)=true
   · rw [if_pos hb,if_pos hb]
   · rw [if_neg hb,if_neg hb]
     obtain ⟨r,hr,h2⟩:=listed_l1 files (by omega) files.length (20000-(files.length-0)-1) 0 (by omega) (by omega) (by omega)
     rw [show ((0:Nat):Int)=0 from rfl] at hr
     rw [hr]
     cases hg:filesGo [] files with
     |none=>
      obtain ⟨i,f,hi,h3⟩:=filesGo_dup files [] hg
      rcases h3 with h3|⟨j,g,hj,hjg,he⟩
      · cases h3
      · rcases h2 with ⟨_,hh⟩|⟨rfl,_⟩
        · have h4:=hh i f (by omega) hi
          have h5:=hh j g (by omega) hjg
          rw [he,h4] at h5
          omega
        · rfl
     |some m=>
      rcases h2 with ⟨rfl,_⟩|⟨_,j,f,hj,hne⟩
      · rfl
      · have hop:openF files=(0,some m):=by unfold openF;rw [if_neg h60,if_neg hb,hg]
        exact absurd (find_at hop hj) hne
def uE (files:List Fl)(name:ByteArray):Int:=match withF files name with
 |(er,none)=>er
 |(_,some m)=>erN m name
def uL (files:List Fl)(ps:List ByteArray)(name:ByteArray):List Us:=match withF files name with
 |(_,none)=>[]
 |(_,some m)=>usR m ps name
theorem rListed_any {files:List Fl}{ps:List ByteArray}{A Ap:Option Addr}{c cp:Nat}{w:World}(H:ArgsOK w files ps A Ap c cp):
 Calls Tryz.prog 23 #[.slice A files.length c] w fun e w'=>e= .returned (.int .i64 (openF files).1)∧Below w.heap.size w w':=by
 have h:=ORef.smockingref21_listed.calls 20000 A c (files.map toS46r) (openF files).1 w (by rw [List.length_map];exact C_46r H.fc) (by rw [List.length_map];exact H.fl) (r_listed files (by have:=H.nfl;omega) (fun f hf=>(H.fsz f hf).1))
 rwa [List.length_map] at h
theorem r_cases (files:List Fl)(name:ByteArray):((openF files).1≠0∧withF files name=((openF files).1,none))∨((openF files).1=0∧findN files name<0∧withF files name=(4,none))∨∃(m:AL) (k:Nat) (f:Fl),openF files=(0,some m)∧findN files name=k∧files[k]? =some f∧f.1=name∧withF files name=(0,some m):=by
 rcases openF_err files with ⟨h1,h2⟩|⟨m,hm⟩
 · have h3:openF files=((openF files).1,none):=by rw [←h1]
   exact .inl ⟨by omega,by unfold withF;rw [h3]⟩
 · have hl:=(openF_files hm).2
   by_cases h:(alGet m name).isSome=true
   · have h0:=(findN_iff hm name).1 h
     rcases (r_find files name (by omega)).2 with ⟨e,_⟩|⟨j,g,e,hj,hg,_⟩
     · omega
     · exact .inr (.inr ⟨m,j,g,hm,e,hj,hg,by unfold withF;rw [hm];simp only;rw [if_pos h]⟩)
   · exact .inr (.inl ⟨by rw [hm],by have:¬0≤findN files name:=fun e=>h ((findN_iff hm name).2 e);omega,by unfold withF;rw [hm];simp only;rw [if_neg h]⟩)
theorem rUses0_any {files:List Fl}{ps:List ByteArray}{A Ap:Option Addr}{c cp:Nat}{w:World}(H:ArgsOK w files ps A Ap c cp)(hcp:ps.length≤cp)(name:ByteArray):
 Calls Tryz.prog 8 #[.slice A files.length c,.string name,.slice Ap ps.length cp] w fun e w'=>∃v,e= .returned (.tuple #[v,.int .i64 (uE files name)])∧Kd.R kUs 33 w' w.heap.size (fun _=>True) v (uL files ps name)∧Below w.heap.size w w':=by
 have H23:=rListed_any H
 have H24:Aside0 (∀W:World,Below w.heap.size w W→Calls Tryz.prog 24 #[.slice A files.length c,.string name] W fun e w'=>e= .returned (.int .i64 (findN files name))∧Below W.heap.size W w'):=⟨fun W hb=>rFind_any files name W A c (Kd.C_below H.fc hb) H.fl (by have:=H.nfl;omega)⟩
 unfold uE uL
 rcases r_cases files name with ⟨h0,hw⟩|⟨h0,hf,hw⟩|⟨m,k,f,hm,hk,hf,rfl,hw⟩
 · rw [hw]
   simp only
   obtain ⟨er,her⟩:∃er,er=(openF files).1:=⟨_,rfl⟩
   rw [←her] at H23 h0 ⊢
   have hb':(er !=0)=true:=bne_iff_ne.mpr h0
   obtain ⟨n,hn⟩:∃n,n=files.length:=⟨_,rfl⟩
   rw [←hn] at H23 ⊢
   obtain ⟨np,hnp⟩:∃np,np=ps.length:=⟨_,rfl⟩
   rw [←hnp]
   clear H hcp H24 hw her h0 hn hnp
   go_enter Tryz.func8,Tryz.ntmps8
   go_wp2_with (go_at_call 23;go_loud (refine H23.mono ?_;rintro e w5 ⟨rfl,hb5⟩;have HB5:=z0 hb5;clear hb5))
   go_ret2
   exact ⟨_,rfl,Kd.R_nil _ _ _ _ _,HB5.out⟩
 · rw [hw]
   simp only
   rw [h0] at H23
   obtain ⟨x,hx⟩:∃x,x=findN files name:=⟨_,rfl⟩
   rw [←hx] at H24 hf
   have hlt:decide (x<0)=true:=decide_eq_true hf
   obtain ⟨n,hn⟩:∃n,n=files.length:=⟨_,rfl⟩
   rw [←hn] at H23 H24 ⊢
   obtain ⟨np,hnp⟩:∃np,np=ps.length:=⟨_,rfl⟩
   rw [←hnp]
   clear H hcp hw hx hf h0 hn hnp
   go_enter Tryz.func8,Tryz.ntmps8
   go_wp2_with (first|(go_at_call 23;go_loud (refine H23.mono ?_;rintro e w5 ⟨rfl,hb5⟩;have HB5:=z0 hb5;clear hb5))|(go_at_call 24;go_loud (refine (H24.out _ HB5.out).mono ?_;rintro e w6 ⟨rfl,hb6⟩;have HB6:=z0 (below_step HB5.out hb6);clear hb6)))
   go_ret2
   exact ⟨_,rfl,Kd.R_nil _ _ _ _ _,HB6.out⟩
 · rw [hw]
   simp only
   rw [hm] at H23
   rw [hk] at H24
   have H25:Aside0 (∀W:World,Below w.heap.size w W→Calls Tryz.prog 25 #[.slice A files.length c,.int .i64 (k:Int),.slice Ap ps.length cp] W fun e w'=>∃v,e= .returned (.tuple #[v,.int .i64 (erN m f.1)])∧Kd.R kUs 33 w' W.heap.size (fun _=>True) v (usR m ps f.1)∧Below W.heap.size W w'):=⟨fun W hb=>by
    have h1:ArgsOK W files ps A Ap c cp:=H.below hb
    have h:=rUses_any h1 hcp k f hf
    rw [us_eq hm ps hf,←er_eq hm hf] at h
    exact h⟩
   have hlt:decide ((k:Int)<0)=false:=decide_eq_false (by omega)
   obtain ⟨n,hn⟩:∃n,n=files.length:=⟨_,rfl⟩
   rw [←hn] at H23 H24 H25 ⊢
   obtain ⟨np,hnp⟩:∃np,np=ps.length:=⟨_,rfl⟩
   rw [←hnp] at H25 ⊢
   obtain ⟨l,hl⟩:∃l,l=usR m ps f.1:=⟨_,rfl⟩
   rw [←hl] at H25 ⊢
   obtain ⟨er,her⟩:∃er,er=erN m f.1:=⟨_,rfl⟩
   rw [←her] at H25 ⊢
   obtain ⟨name,hname⟩:∃name,name=f.1:=⟨_,rfl⟩
   rw [←hname] at H24 ⊢
   clear H hcp hw hm hk hf hn hnp hl her hname
   go_enter Tryz.func8,Tryz.ntmps8
   go_wp2_with (first|(go_at_call 23;go_loud (refine H23.mono ?_;rintro e w5 ⟨rfl,hb5⟩;have HB5:=z0 hb5;clear hb5))|(go_at_call 24;go_loud (refine (H24.out _ HB5.out).mono ?_;rintro e w6 ⟨rfl,hb6⟩;have HB6:=z0 (below_step HB5.out hb6);clear hb6))|(go_at_call 25;go_loud (refine (H25.out _ HB6.out).mono ?_;rintro e w7 ⟨v7,rfl,hR,hb7⟩;obtain ⟨A7,c7,rfl⟩:=Kd.R_slice hR;have HR7:=z0 hR;have HB7:=z0 hb7;clear hR hb7)))
   go_ret2
   exact ⟨_,rfl,Kd.R_lower HR7.out HB6.out.size,below_step HB6.out HB7.out⟩
end Go.Proofs.YtolaiebjmhieiaaGreatDoor.OScan
end
