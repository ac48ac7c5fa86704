/- Map literals of texts to numbers, made by the call and looked up. -/
import Derived.Test.YtnlooggibopknaaGreatDoorNum
import Derived.WideMake
namespace Go.Proofs.YtnlooggibopknaaGreatDoor
open Go.RowKit

theorem set_new (w : World) (o o' : Obj) : ({ w.alloc o with heap := (w.alloc o).heap.setIfInBounds w.heap.size o' } : World) = w.alloc o' := by
  simp only [World.alloc]
  congr 1
  apply Array.ext_getElem?
  intro k
  rw [Array.getElem?_setIfInBounds, Array.getElem?_push, Array.getElem?_push, Array.size_push]
  by_cases h : k = w.heap.size
  · subst h; simp
  · rw [if_neg (fun e => h e.symm), if_neg h, if_neg h]

theorem map_upd (w : World) (es : Array MapEntry) (clock : Nat) (s : ByteArray) (val : Value) (h : Instr.findNow .string (.string s) es.toList 0 = some none) :
    (Instr.mapUpdate 134 (.map (some w.heap.size)) (.string s) val).run Tryz.prog (w.alloc (.map es clock)) = .ok () (w.alloc (.map (es.push { key := .string s, val := val, born := clock }) (clock + 1))) := by
  have hb : (w.alloc (.map es clock)).heap[w.heap.size]? = some (.map es clock) := heap_alloc_new w _
  have hc : (Instr.checkKey false 10000 9 (.string s)).run Tryz.prog (w.alloc (.map es clock)) = .ok () (w.alloc (.map es clock)) := MapKept.run_checkKey (k := .string s) Tryz.underlying9 (by simp [MapKept.IsKey]) false 9999
  have hg := MapKept.run_getObj_map (P := Tryz.prog) hb
  have hs := MapKept.run_setObj_map (P := Tryz.prog) (.map (es.push { key := .string s, val := val, born := clock }) (clock + 1)) hb
  rw [set_new] at hs
  have hf := MapKept.run_findKey (w := w.alloc (.map es clock)) Tryz.underlying9 h
  unfold Instr.mapUpdate
  simp only [Sem.run_bind, run_underlying Tryz.underlying134, Result.andThen_ok, hg, hc, hf, hs]
theorem map_get (w : World) (es : Array MapEntry) (clock : Nat) (s : ByteArray) (i : Nat) (v : Value) (h : Instr.findNow .string (.string s) es.toList 0 = some (some (i, v))) :
    (Instr.lookup 134 (.map (some w.heap.size)) (.string s) false).run Tryz.prog (w.alloc (.map es clock)) = .ok v (w.alloc (.map es clock)) := by
  have hb : (w.alloc (.map es clock)).heap[w.heap.size]? = some (.map es clock) := heap_alloc_new w _
  have hc : (Instr.checkKey es.isEmpty 10000 9 (.string s)).run Tryz.prog (w.alloc (.map es clock)) = .ok () (w.alloc (.map es clock)) := MapKept.run_checkKey (k := .string s) Tryz.underlying9 (by simp [MapKept.IsKey]) _ 9999
  have hg := MapKept.run_getObj_map (P := Tryz.prog) hb
  have hf := MapKept.run_findKey (w := w.alloc (.map es clock)) Tryz.underlying9 h
  unfold Instr.lookup
  simp [Sem.run_bind, run_underlying Tryz.underlying134, Result.andThen_ok, hg, hc, hf, -World.alloc_eq]
theorem map_not (w : World) (es : Array MapEntry) (clock : Nat) (s : ByteArray) (h : Instr.findNow .string (.string s) es.toList 0 = some none) :
    (Instr.lookup 134 (.map (some w.heap.size)) (.string s) false).run Tryz.prog (w.alloc (.map es clock)) = .ok (.int .i64 0) (w.alloc (.map es clock)) := by
  have hb : (w.alloc (.map es clock)).heap[w.heap.size]? = some (.map es clock) := heap_alloc_new w _
  have hc : (Instr.checkKey es.isEmpty 10000 9 (.string s)).run Tryz.prog (w.alloc (.map es clock)) = .ok () (w.alloc (.map es clock)) := MapKept.run_checkKey (k := .string s) Tryz.underlying9 (by simp [MapKept.IsKey]) _ 9999
  have hg := MapKept.run_getObj_map (P := Tryz.prog) hb
  have hf := MapKept.run_findKey (w := w.alloc (.map es clock)) Tryz.underlying9 h
  unfold Instr.lookup
  simp [Sem.run_bind, run_underlying Tryz.underlying134, Result.andThen_ok, hg, hc, hf, -World.alloc_eq]

abbrev en (s : ByteArray) (n : Int) (b : Nat) : MapEntry := { key := .string s, val := .int .i64 n, born := b }
theorem ba_beq (s t : ByteArray) : (s == t) = (s.data == t.data) := rfl
theorem ba_yes (s : ByteArray) : (s == s) = true := by rw [ba_beq]; simp
theorem ba_no {s t : ByteArray} (h : ¬ s = t) : (s == t) = false := by
  rw [ba_beq, beq_eq_false_iff_ne]
  intro e
  apply h
  cases s; cases t; cases e; rfl
theorem find_one {s t : ByteArray} {n : Int} {b : Nat} {r : List MapEntry} {i : Nat} (h : s = t) : Instr.findNow .string (.string s) (en t n b :: r) i = some (some (i, .int .i64 n)) := by
  subst h
  rw [Instr.findNow]
  simp only [Instr.sameNow, ba_yes]
theorem find_next {s t : ByteArray} {n : Int} {b : Nat} {r : List MapEntry} {i : Nat} (h : ¬ s = t) : Instr.findNow .string (.string s) (en t n b :: r) i = Instr.findNow .string (.string s) r (i + 1) := by
  rw [Instr.findNow]
  simp only [Instr.sameNow, ba_no h]
theorem look4 (w : World) (how : ByteArray) :
    (Instr.lookup 134 (.map (some w.heap.size)) (.string how) false).run Tryz.prog (w.alloc (.map #[en ⟨#[80, 85, 84]⟩ 3 0, en ⟨#[71, 69, 84]⟩ 4 1, en ⟨#[68, 69, 76, 69, 84, 69]⟩ 5 2, en ⟨#[80, 79, 83, 84]⟩ 7 3] 4)) = .ok (.int .i64 (kindK how)) (w.alloc (.map #[en ⟨#[80, 85, 84]⟩ 3 0, en ⟨#[71, 69, 84]⟩ 4 1, en ⟨#[68, 69, 76, 69, 84, 69]⟩ 5 2, en ⟨#[80, 79, 83, 84]⟩ 7 3] 4)) := by
  unfold kindK
  by_cases h1 : how = bPUT
  · rw [if_pos h1]; exact map_get w _ _ how 0 _ (find_one h1)
  rw [if_neg h1]
  by_cases h2 : how = bGET
  · rw [if_pos h2]; exact map_get w _ _ how 1 _ ((find_next h1).trans (find_one h2))
  rw [if_neg h2]
  by_cases h3 : how = bDELETE
  · rw [if_pos h3]; exact map_get w _ _ how 2 _ ((find_next h1).trans ((find_next h2).trans (find_one h3)))
  rw [if_neg h3]
  by_cases h4 : how = bPOST
  · rw [if_pos h4]; exact map_get w _ _ how 3 _ ((find_next h1).trans ((find_next h2).trans ((find_next h3).trans (find_one h4))))
  rw [if_neg h4]
  exact map_not w _ _ how ((find_next h1).trans ((find_next h2).trans ((find_next h3).trans ((find_next h4).trans rfl))))
theorem look2 (w : World) (how : ByteArray) :
    (Instr.lookup 134 (.map (some w.heap.size)) (.string how) false).run Tryz.prog (w.alloc (.map #[en ⟨#[80, 85, 84]⟩ 1 0, en ⟨#[68, 69, 76, 69, 84, 69]⟩ 2 1] 2)) = .ok (.int .i64 (kindM how)) (w.alloc (.map #[en ⟨#[80, 85, 84]⟩ 1 0, en ⟨#[68, 69, 76, 69, 84, 69]⟩ 2 1] 2)) := by
  unfold kindM
  by_cases h1 : how = bPUT
  · rw [if_pos h1]; exact map_get w _ _ how 0 _ (find_one h1)
  rw [if_neg h1]
  by_cases h3 : how = bDELETE
  · rw [if_pos h3]; exact map_get w _ _ how 1 _ ((find_next h1).trans (find_one h3))
  rw [if_neg h3]
  exact map_not w _ _ how ((find_next h1).trans ((find_next h3).trans rfl))
end Go.Proofs.YtnlooggibopknaaGreatDoor
