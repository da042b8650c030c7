/- HeadOnce: for every list of files, every name and every list of places the law answers true, and all read behind the call as before; the listed tables are tied to the text of the program; no condition. Here: parts of its proof. -/
import Derived.Test.YtolaiebjmhieiaaGreatDoorM04
import Derived.Test.YtolaiebjmhieiaaGreatDoorM05
import Derived.Test.YtolaiebjmhieiaaGreatDoorM06
import Derived.Test.YtolaiebjmhieiaaGreatDoorM07
import Derived.Test.YtolaiebjmhieiaaGreatDoorM08

section
namespace Go.Proofs.YtolaiebjmhieiaaGreatDoor.OScan
open Go.RowKit Go.Proofs.YtolaiebjmhieiaaGreatDoorW.PrintWords Go.Proofs.YtolaiebjmhieiaaGreatDoorW.PrintLast Go.Proofs.YtolaiebjmhieiaaGreatDoorW.PrintMore
attribute [local go_sem] max2_int min2_int max_two min_two max_three min_three max_four min_four
set_option linter.unusedVariables false
set_option linter.unusedSimpArgs false
end Go.Proofs.YtolaiebjmhieiaaGreatDoor.OScan
end
section
namespace Go.Proofs.YtolaiebjmhieiaaGreatDoor.OScan
open Go.RowKit Go.Proofs.YtolaiebjmhieiaaGreatDoorW.PrintWords Go.Proofs.YtolaiebjmhieiaaGreatDoorW.PrintLast Go.Proofs.YtolaiebjmhieiaaGreatDoorW.PrintMore
set_option linter.unusedVariables false
set_option linter.unusedSimpArgs false
theorem heap_lt {W : World} {i : Nat} {o : Obj} (h : W.heap[i]? = some o) : i < W.heap.size := by
  by_cases hx : i < W.heap.size
  · exact hx
  · rw [Array.getElem?_eq_none (by omega)] at h; simp at h
def KwMap (W : World) (v : Value) (kw : List ByteArray) : Prop := ∃ b es clock, v = .map (some b) ∧ W.heap[b]? = some (.map es clock) ∧ es.toList.map (fun e => (e.key, e.val)) = kw.map (fun t => (Value.string t, Value.bool true))
theorem find_kw (t : ByteArray) : ∀ (l : List MapEntry) (kw : List ByteArray) (i : Nat), l.map (fun e => (e.key, e.val)) = kw.map (fun t => (Value.string t, Value.bool true)) →
    ∃ r, Instr.findNow .string (.string t) l i = some r ∧ ((kw.contains t = true ∧ ∃ j, r = some (j, .bool true)) ∨ (kw.contains t = false ∧ r = none)) := by
  intro l
  induction l with
  | nil => intro kw i h; cases kw with
    | nil => exact ⟨none, rfl, .inr ⟨rfl, rfl⟩⟩
    | cons => simp at h
  | cons e l ih =>
    intro kw i h
    cases kw with
    | nil => simp at h
    | cons a kw =>
      simp only [List.map_cons, List.cons.injEq, Prod.mk.injEq] at h
      obtain ⟨⟨h1, h2⟩, h3⟩ := h
      simp only [Instr.findNow, h1, Instr.sameNow]
      have hcc : (a :: kw).contains t = (t == a || kw.contains t) := by simp only [List.contains_cons]
      cases hta : (t == a)
      · obtain ⟨r, hr, hq⟩ := ih kw (i + 1) h3
        refine ⟨r, hr, ?_⟩
        rw [hcc, hta, Bool.false_or]; exact hq
      · exact ⟨some (i, e.val), rfl, .inl ⟨by rw [hcc, hta, Bool.true_or], i, by rw [h2]⟩⟩
theorem check_kw (W : World) (e : Bool) (n : Nat) (t : ByteArray) : (Instr.checkKey e (n + 1) 9 (.string t)).run Tryz.prog W = .ok () W := by
  rw [Instr.checkKey.eq_def]; simp [run_underlying Tryz.underlying9]
theorem KwMap.keep {w w' : World} {v : Value} {kw : List ByteArray} {g : Nat} {cs : Array Value} {ty : TypeId} {fr : Nat × Nat} (h : KwMap w v kw) (hk : KeepBut w w' g none) (hg : w.heap[g]? = some (.cells cs ty fr)) : KwMap w' v kw := by
  obtain ⟨b, es, clock, rfl, hb, he⟩ := h
  have hl := heap_lt hb
  refine ⟨b, es, clock, rfl, ?_, he⟩
  rw [hk.2 b hl (fun hx => by subst hx; rw [hb] at hg; cases hg) (by simp), hb]
theorem KwMap.run {W : World} {v : Value} {kw : List ByteArray} (h : KwMap W v kw) (t : ByteArray) : (Instr.lookup 112 v (.string t) false).run Tryz.prog W = .ok (.bool (kw.contains t)) W := by
  obtain ⟨b, es, clock, rfl, hb, he⟩ := h
  obtain ⟨r, hr, hq⟩ := find_kw t es.toList kw 0 he
  have hck := check_kw W es.isEmpty 9999 t
  rcases hq with ⟨hc, j, rfl⟩ | ⟨hc, rfl⟩ <;>
    simp [Instr.lookup, run_underlying Tryz.underlying112, MapKept.run_getObj_map hb, hck, Instr.findKey, run_underlying Tryz.underlying9, hr, hc, Result.andThen, Tryz.zeroValue4]
end Go.Proofs.YtolaiebjmhieiaaGreatDoor.OScan
end
