/- The walk of front.Parse. -/
import Derived.Test.YtnlooggibopknaaGreatDoorPq
import Derived.Lib.SlBytesConst
import Derived.StillTailTactics
namespace Go.Proofs.YtnlooggibopknaaGreatDoor
open Go.RowKit Go.Sort

def PaR (r : O × Int) (w : World) (e : Ending) (w' : World) : Prop :=
  ∃ pv dv, e = .returned (.tuple #[opV r.1 pv dv, .int .i64 r.2]) ∧ RowC w' pv (icells r.1.ps) ∧ RowC w' dv (bcells r.1.da) ∧ Below w.heap.size w w'

/-- The world in which Parse's own cells lie: the op's at p, the status's behind it. -/
structure PaW (w W : World) (p : Nat) : Prop where
  sz : p = w.heap.size
  op : W.heap[p]? = some (.cells zeroCs 26 (0, 0))
  st : W.heap[p + 1]? = some (.cells #[.int .i64 0] 3 (0, 0))
  lt : p + 2 ≤ W.heap.size
  bl : Below w.heap.size w W
theorem PaW.below {w W W' : World} {p : Nat} (h : PaW w W p) (hb : Below W.heap.size W W') : PaW w W' p :=
  ⟨h.sz, (hb.block p (by have := h.lt; omega)).trans h.op, (hb.block (p + 1) (by have := h.lt; omega)).trans h.st, by have := h.lt; have := hb.size; omega, h.bl.trans (hb.mono h.bl.size)⟩
theorem PaW.belowX {w W W' : World} {p pb : Nat} (h : PaW w W p) (hpb : p + 2 ≤ pb) (hb : BelowX pb W.heap.size W W') : PaW w W' p :=
  ⟨h.sz, (hb.block p (by have := h.lt; omega) (by omega)).trans h.op, (hb.block (p + 1) (by have := h.lt; omega) (by omega)).trans h.st, by have := h.lt; have := hb.size; omega,
    ⟨hb.os.trans h.bl.os, hb.tape.trans h.bl.tape, hb.output.trans h.bl.output, Nat.le_trans h.bl.size hb.size, fun k hk => (hb.block k (by have := h.bl.size; omega) (by have := h.sz; omega)).trans (h.bl.block k hk)⟩⟩
def PaW0 (w : World) : World := ((w.alloc (.cells zeroCs 26)).alloc (.cells #[.int .i64 0] 3)).alloc (.cells (bcells CC).toArray 5 (4, 5))
theorem PaW.start (w : World) : PaW w (PaW0 w) w.heap.size := by
  have h1 : (w.alloc (.cells zeroCs 26)).heap.size = w.heap.size + 1 := World.size_alloc _ _
  have h2 : ((w.alloc (.cells zeroCs 26)).alloc (.cells #[.int .i64 0] 3)).heap.size = w.heap.size + 2 := by rw [World.size_alloc, h1]
  have b1 := (Below.refl (w.alloc (.cells zeroCs 26)).heap.size (w.alloc (.cells zeroCs 26))).alloc (Nat.le_refl _) (.cells #[.int .i64 0] 3)
  have b2 := (Below.refl ((w.alloc (.cells zeroCs 26)).alloc (.cells #[.int .i64 0] 3)).heap.size _).alloc (Nat.le_refl _) (.cells (bcells CC).toArray 5 (4, 5))
  unfold PaW0
  refine ⟨rfl, ?_, ?_, by rw [World.size_alloc, h2]; omega, ?_⟩
  · exact (b2.block _ (by omega)).trans ((b1.block _ (by omega)).trans (heap_alloc_new w _))
  · refine (b2.block _ (by omega)).trans ?_
    have := heap_alloc_new (w.alloc (.cells zeroCs 26)) (.cells #[.int .i64 0] 3)
    rw [h1] at this
    exact this
  · exact (((Below.refl _ _).alloc (Nat.le_refl _) _).alloc (by omega) _).alloc (by omega) _
theorem PaW0_cc (w : World) : ∀ j u, (bcells CC)[j]? = some u → (PaW0 w).cell? ⟨w.heap.size + 1 + 1, j, none⟩ = some u := fun j u hj => by
  have h := World.news_of_block (heap_alloc_new ((w.alloc (.cells zeroCs 26)).alloc (.cells #[.int .i64 0] 3)) (.cells (bcells CC).toArray 5 (4, 5))) j u (by simpa using hj)
  rw [World.size_alloc, World.size_alloc, Lib.add_plain, Nat.zero_add] at h
  exact h
theorem PaW0_conv (w : World) : (convert 24 24 (.slice (some ⟨w.heap.size + 1 + 1, 0, none⟩) 4 4)).run Tryz.prog (((w.alloc (.cells #[.int .u64 0, .int .i64 0, .string ⟨#[]⟩, .string ⟨#[]⟩, .string ⟨#[]⟩, .int .i64 0, .int .u64 0, .slice none 0 0, .slice none 0 0] 26)).alloc (.cells #[.int .i64 0] 3)).alloc (.cells #[.int .u8 13, .int .u8 10, .int .u8 13, .int .u8 10] 5)) = .ok (.slice (some ⟨w.heap.size + 1 + 1, 0, none⟩) 4 4) (PaW0 w) := by
  have h := Lib.run_convert_bytes_const (P := Tryz.prog) ((w.alloc (.cells zeroCs 26)).alloc (.cells #[.int .i64 0] 3)) 24 5 (bcells CC).toArray 4 4 Tryz.underlying24 Tryz.underlying5
  rw [World.size_alloc, World.size_alloc] at h
  exact h

/-- The cells of Parse's own op and status, for the walk to store into. -/
theorem PaW.cells {w W : World} {p : Nat} (h : PaW w W p) :
    W.cell? ⟨p, 0, none⟩ = some (.int .u64 0) ∧ W.cell? ⟨p, 1, none⟩ = some (.int .i64 0) ∧ W.cell? ⟨p, 2, none⟩ = some (.string ⟨#[]⟩) ∧ W.cell? ⟨p, 3, none⟩ = some (.string ⟨#[]⟩) ∧ W.cell? ⟨p, 4, none⟩ = some (.string ⟨#[]⟩) ∧ W.cell? ⟨p, 5, none⟩ = some (.int .i64 0) ∧ W.cell? ⟨p, 6, none⟩ = some (.int .u64 0) ∧ W.cell? ⟨p, 7, none⟩ = some (.slice none 0 0) ∧ W.cell? ⟨p, 8, none⟩ = some (.slice none 0 0) ∧ (∀ j, W.frozen? ⟨p, j, none⟩ = false) ∧ W.cell? ⟨p + 1, 0, none⟩ = some (.int .i64 0) ∧ W.frozen? ⟨p + 1, 0, none⟩ = false :=
  ⟨cell_of_row _ _ 0 _ _ _ h.op, cell_of_row _ _ 1 _ _ _ h.op, cell_of_row _ _ 2 _ _ _ h.op, cell_of_row _ _ 3 _ _ _ h.op, cell_of_row _ _ 4 _ _ _ h.op, cell_of_row _ _ 5 _ _ _ h.op, cell_of_row _ _ 6 _ _ _ h.op, cell_of_row _ _ 7 _ _ _ h.op, cell_of_row _ _ 8 _ _ _ h.op, fun j => frozen_of_row W p j _ _ h.op, cell_of_row _ _ 0 _ _ _ h.st, frozen_of_row W (p + 1) 0 _ _ h.st⟩

set_option maxRecDepth 100000 in
/-- Out of the door, by a return. -/
theorem door_ret {w W : World} {p : Nat} {o : O} {pv dv : Value} {s : Int} {tmps : Array Value} (hop : W.heap[p]? = some (.cells (pC o pv dv) 26 (0, 0))) (hst : W.heap[p + 1]? = some (.cells #[.int .i64 s] 3 (0, 0)))
    (h2 : tmps[2]? = some (.pointer (some ⟨p, 0, none⟩))) (h3 : tmps[3]? = some (.pointer (some ⟨p + 1, 0, none⟩))) (hp : RowC W pv (icells o.ps)) (hd : RowC W dv (bcells o.da)) (hb : Below w.heap.size w W) :
    bodyPostD Tryz.prog Tryz.f19 (PaR (o, s) w) Exit.ret { tmps := tmps, defers := [{ target := Target.fn (Fn.func 44) #[.pointer (some ⟨p, 0, none⟩), .pointer (some ⟨p + 1, 0, none⟩)], args := #[] }] } W := by
  have c0 : W.cell? ⟨p, 0, none⟩ = some (.int .u64 o.id) := cell_of_row _ _ 0 _ _ _ hop
  have c1 : W.cell? ⟨p, 1, none⟩ = some (.int .i64 o.kind) := cell_of_row _ _ 1 _ _ _ hop
  have c2 : W.cell? ⟨p, 2, none⟩ = some (.string o.bu) := cell_of_row _ _ 2 _ _ _ hop
  have c3 : W.cell? ⟨p, 3, none⟩ = some (.string o.ke) := cell_of_row _ _ 3 _ _ _ hop
  have c4 : W.cell? ⟨p, 4, none⟩ = some (.string o.af) := cell_of_row _ _ 4 _ _ _ hop
  have c5 : W.cell? ⟨p, 5, none⟩ = some (.int .i64 o.n) := cell_of_row _ _ 5 _ _ _ hop
  have c6 : W.cell? ⟨p, 6, none⟩ = some (.int .u64 o.up) := cell_of_row _ _ 6 _ _ _ hop
  have c7 : W.cell? ⟨p, 7, none⟩ = some pv := cell_of_row _ _ 7 _ _ _ hop
  have c8 : W.cell? ⟨p, 8, none⟩ = some dv := cell_of_row _ _ 8 _ _ _ hop
  have d0 : W.cell? ⟨p + 1, 0, none⟩ = some (.int .i64 s) := cell_of_row _ _ 0 _ _ _ hst
  refine leaves_cons (f := 44) (args := #[.pointer (some ⟨p, 0, none⟩), .pointer (some ⟨p + 1, 0, none⟩)]) (by simp) (by simp [go_sem]) ?_
  refine (catch_idle _ _ _).mono ?_
  rintro e u' w'' ⟨rfl, rfl, hw⟩
  subst hw
  simp [Leaves, settle, results, Tryz.results19, go_sem, h2, h3, c0, c1, c2, c3, c4, c5, c6, c7, c8, d0]
  exact ⟨pv, dv, rfl, hp, hd, hb⟩

theorem zero9 : zeroCs.size = 9 := by unfold zeroCs pC; rfl
/-- Parse's op and status are laid. -/
theorem fin_facts {w W : World} {p : Nat} (h : PaW w W p) (o : O) (pv dv : Value) (s : Int) :
    ((setOp W p o pv dv).setCell ⟨p + 1, 0, none⟩ (.int .i64 s)).heap[p]? = some (.cells (pC o pv dv) 26 (0, 0)) ∧ ((setOp W p o pv dv).setCell ⟨p + 1, 0, none⟩ (.int .i64 s)).heap[p + 1]? = some (.cells #[.int .i64 s] 3 (0, 0)) ∧ Below w.heap.size w ((setOp W p o pv dv).setCell ⟨p + 1, 0, none⟩ (.int .i64 s)) := by
  refine ⟨?_, ?_, ?_⟩
  · rw [Below.heap_setCell _ ⟨p + 1, 0, none⟩ _ p (by show p ≠ p + 1; omega)]
    exact setOp_same h.op zero9
  · have h1 := (setOp_other W p o pv dv (p + 1) (by omega)).trans h.st
    exact heap_setCell_same _ (p + 1) 0 _ _ (.int .i64 s) h1
  · have h1 := setOp_below W p o pv dv
    have hs := h.sz
    have hz := h.bl.size
    generalize setOp W p o pv dv = W' at *
    have h2 : Below w.heap.size w W' := ⟨h1.os.trans h.bl.os, h1.tape.trans h.bl.tape, h1.output.trans h.bl.output, Nat.le_trans hz h1.size, fun k hk => (h1.block k (by omega) (by omega)).trans (h.bl.block k hk)⟩
    exact h2.setCell (by show w.heap.size ≤ p + 1; omega) _
theorem door_fin {w W : World} {p pb : Nat} {o : O} {pv dv : Value} {s : Int} {tmps : Array Value} (h : PaW w W p) (hpb : p + 1 ≤ pb) (h2 : tmps[2]? = some (.pointer (some ⟨p, 0, none⟩))) (h3 : tmps[3]? = some (.pointer (some ⟨p + 1, 0, none⟩)))
    (hp : RowX pb W pv (icells o.ps)) (hd : RowX pb W dv (bcells o.da)) {r : O × Int} (hr : r = (o, s)) :
    bodyPostD Tryz.prog Tryz.f19 (PaR r w) Exit.ret { tmps := tmps, defers := [{ target := Target.fn (Fn.func 44) #[.pointer (some ⟨p, 0, none⟩), .pointer (some ⟨p + 1, 0, none⟩)], args := #[] }] } ((setOp W p o pv dv).setCell ⟨p + 1, 0, none⟩ (.int .i64 s)) := by
  obtain ⟨f1, f2, f3⟩ := fin_facts h o pv dv s
  subst hr
  exact door_ret f1 f2 h2 h3 ((hp.setOp (by omega) o pv dv).set hpb 0 _).c ((hd.setOp (by omega) o pv dv).set hpb 0 _).c f3
theorem door_zero {w W : World} {p : Nat} {s : Int} {tmps : Array Value} (h : PaW w W p) (h2 : tmps[2]? = some (.pointer (some ⟨p, 0, none⟩))) (h3 : tmps[3]? = some (.pointer (some ⟨p + 1, 0, none⟩))) {r : O × Int} (hr : r = (zeroO, s)) :
    bodyPostD Tryz.prog Tryz.f19 (PaR r w) Exit.ret { tmps := tmps, defers := [{ target := Target.fn (Fn.func 44) #[.pointer (some ⟨p, 0, none⟩), .pointer (some ⟨p + 1, 0, none⟩)], args := #[] }] } ((setOp W p zeroO (.slice none 0 0) (.slice none 0 0)).setCell ⟨p + 1, 0, none⟩ (.int .i64 s)) :=
  door_fin (pb := p + 1) h (Nat.le_refl _) h2 h3 (RowX.nil _ _ _ _) (RowX.nil _ _ _ _) hr
set_option maxRecDepth 100000 in
/-- Out of the door, by the parser's stop. -/
theorem door_bad {w W : World} {p : Nat} {tmps : Array Value} (h : PaW w W p) (h2 : tmps[2]? = some (.pointer (some ⟨p, 0, none⟩))) (h3 : tmps[3]? = some (.pointer (some ⟨p + 1, 0, none⟩))) {r : O × Int} (hr : r = (zeroO, 400)) :
    bodyPostD Tryz.prog Tryz.f19 (PaR r w) (Exit.panic [{ v := .iface 3 (.int .i64 400), recovered := false }]) { tmps := tmps, defers := [{ target := Target.fn (Fn.func 44) #[.pointer (some ⟨p, 0, none⟩), .pointer (some ⟨p + 1, 0, none⟩)], args := #[] }] } W := by
  obtain ⟨f1, f2, f3⟩ := fin_facts h zeroO (.slice none 0 0) (.slice none 0 0) 400
  subst hr
  refine leaves_cons (f := 44) (args := #[.pointer (some ⟨p, 0, none⟩), .pointer (some ⟨p + 1, 0, none⟩)]) (by simp) (by simp [go_sem]) ?_
  refine (catch_bad p (p + 1) 400 _ [] W (by omega) h.op h.st).mono ?_
  rintro e u' w'' ⟨rfl, rfl, hw⟩
  have c0 : w''.cell? ⟨p, 0, none⟩ = some (.int .u64 0) := hw ▸ cell_of_row _ _ 0 _ _ _ f1
  have c1 : w''.cell? ⟨p, 1, none⟩ = some (.int .i64 0) := hw ▸ cell_of_row _ _ 1 _ _ _ f1
  have c2 : w''.cell? ⟨p, 2, none⟩ = some (.string ⟨#[]⟩) := hw ▸ cell_of_row _ _ 2 _ _ _ f1
  have c3 : w''.cell? ⟨p, 3, none⟩ = some (.string ⟨#[]⟩) := hw ▸ cell_of_row _ _ 3 _ _ _ f1
  have c4 : w''.cell? ⟨p, 4, none⟩ = some (.string ⟨#[]⟩) := hw ▸ cell_of_row _ _ 4 _ _ _ f1
  have c5 : w''.cell? ⟨p, 5, none⟩ = some (.int .i64 0) := hw ▸ cell_of_row _ _ 5 _ _ _ f1
  have c6 : w''.cell? ⟨p, 6, none⟩ = some (.int .u64 0) := hw ▸ cell_of_row _ _ 6 _ _ _ f1
  have c7 : w''.cell? ⟨p, 7, none⟩ = some (.slice none 0 0) := hw ▸ cell_of_row _ _ 7 _ _ _ f1
  have c8 : w''.cell? ⟨p, 8, none⟩ = some (.slice none 0 0) := hw ▸ cell_of_row _ _ 8 _ _ _ f1
  have d0 : w''.cell? ⟨p + 1, 0, none⟩ = some (.int .i64 400) := hw ▸ cell_of_row _ _ 0 _ _ _ f2
  rw [← hw] at f3
  clear f1 f2 hw
  simp [Leaves, settle, results, Tryz.results19, go_sem, h2, h3, c0, c1, c2, c3, c4, c5, c6, c7, c8, d0]
  exact ⟨.slice none 0 0, .slice none 0 0, rfl, RowC.nil _ _ _, RowC.nil _ _ _, f3⟩

theorem convert_row {W : World} {v : Value} {l : List UInt8} (h : RowIn W v (bcells l)) : (convert 24 9 v).run Tryz.prog W = .ok (.string (mkB l)) W := by
  rcases h with ⟨a, c, rfl, he⟩ | ⟨b, o, c, h0, rfl, hb, hc⟩
  · have hl : l = [] := by have := congrArg List.length he; rw [bcells_len] at this; exact List.eq_nil_of_length_eq_zero this
    subst hl
    cases a with
    | none => exact run_convert_bytes_nil (P := Tryz.prog) W 24 5 Tryz.underlying24 Tryz.underlying5 0 c 9 Tryz.underlying9
    | some a => exact run_convert_bytes_back (P := Tryz.prog) W 24 9 5 a c [] Tryz.underlying24 Tryz.underlying5 Tryz.underlying9 (fun j hj => absurd hj (Nat.not_lt_zero _))
  · rw [bcells_len]
    refine run_convert_bytes_back (P := Tryz.prog) W 24 9 5 ⟨b, o, none⟩ c l Tryz.underlying24 Tryz.underlying5 Tryz.underlying9 (fun j hj => ?_)
    rw [Lib.add_plain]
    refine hc j _ ?_
    rw [bcells_getElem?, List.getElem?_eq_getElem hj]
    rfl
/-- A row of bytes does not lie in the parser's block. -/
theorem row_off {W : World} {pb : Nat} {o : O} {a1 a2 : Option Addr} {n1 n2 c1 c2 : Nat} {v : Value} {l : List UInt8} (h : RowIn W v (bcells l)) (hP : PIs W pb o (.slice a1 n1 c1) (.slice a2 n2 c2)) {b o' n c : Nat} (hv : v = .slice (some ⟨b, o', none⟩) n c) (hn : 0 < n) : b ≠ pb := by
  rintro rfl
  rcases h with ⟨a, c', rfl, he⟩ | ⟨b', o2, c', h0, rfl, hb, hc⟩
  · cases hv; omega
  · cases hv
    have hl : 0 < l.length := by rw [bcells_len] at h0; exact h0
    have h1 := hc 0 (.int .u8 (l[0].toNat : Int)) (by rw [bcells_getElem?, List.getElem?_eq_getElem hl]; rfl)
    have h2 : W.cell? ⟨b, o', none⟩ = (pC o (.slice a1 n1 c1) (.slice a2 n2 c2))[o']? := cell_of_row W b o' _ _ _ hP
    rw [Nat.add_zero] at h1
    rw [h1] at h2
    have h9 : o' < 9 := by
      rcases Nat.lt_or_ge o' 9 with h | h
      · exact h
      · rw [Array.getElem?_eq_none (by unfold pC; exact h)] at h2; cases h2
    have : o' = 0 ∨ o' = 1 ∨ o' = 2 ∨ o' = 3 ∨ o' = 4 ∨ o' = 5 ∨ o' = 6 ∨ o' = 7 ∨ o' = 8 := by omega
    rcases this with rfl | rfl | rfl | rfl | rfl | rfl | rfl | rfl | rfl <;> simp [pC] at h2
theorem rowIn_set {W : World} {v : Value} {l : List UInt8} {pb : Nat} (h : RowIn W v (bcells l)) (hoff : ∀ b o n c, v = .slice (some ⟨b, o, none⟩) n c → 0 < n → b ≠ pb) (j : Nat) (x : Value) : RowIn (W.setCell ⟨pb, j, none⟩ x) v (bcells l) := by
  rcases h with h1 | ⟨b, o, c, h0, h1, h2, h3⟩
  · exact .inl h1
  · have hn := hoff b o _ c h1 h0
    refine .inr ⟨b, o, c, h0, h1, by simpa [World.setCell] using h2, fun k u hk => ?_⟩
    rw [World.cell?_of_block (a := ⟨b, o + k, none⟩) (Below.heap_setCell W ⟨pb, j, none⟩ x b hn)]
    exact h3 k u hk
theorem mk_app (a : List UInt8) : mkB a ++ ⟨#[48]⟩ ++ ⟨#[13, 10]⟩ ++ ⟨#[13, 10]⟩ = mkB (a ++ [48, 13, 10, 13, 10]) := by
  apply bl_inj
  simp only [bl_app, bl_mk]
  simp [bl]
theorem mk_yes {a b : List UInt8} (h : a = b) : ((mkB a).toList == (mkB b).toList) = true := by rw [h]; simp
theorem mk_no {a b : List UInt8} (h : a ≠ b) : ((mkB a).toList == (mkB b).toList) = false := by
  rw [beq_eq_false_iff_ne, ByteArray.toList_eq, ByteArray.toList_eq]
  simpa [mkB] using h

theorem slice_from (bb bo n c m : Nat) (h1 : m + 4 ≤ n) (h2 : n ≤ c) : ∃ o2, (0 < n - (m + 4) → o2 = bo + (m + 4)) ∧ ∀ W, (Instr.slice 24 (.slice (some ⟨bb, bo, none⟩) n c) (some (.int .i64 ((m : Int) + 4))) none none).run Tryz.prog W = .ok (.slice (some ⟨bb, o2, none⟩) (n - (m + 4)) (c - (m + 4))) W := by
  have e : ((m : Int) + 4).toNat = m + 4 := by omega
  by_cases he : c = m + 4
  · refine ⟨bo, fun h => by omega, fun W => ?_⟩
    go_simp
    intro h
    have := h (by omega)
    omega
  · refine ⟨bo + (m + 4), fun h => rfl, fun W => ?_⟩
    go_simp
    intro h
    have := h (by omega)
    omega

set_option maxHeartbeats 4000000 in
set_option maxRecDepth 1000000 in
theorem parse_long (l : List UInt8) (bb bo c : Nat) (w : World) (hc : ∀ j u, (bcells l)[j]? = some u → w.cell? ⟨bb, bo + j, none⟩ = some u) (hcap : l.length ≤ c) (hl : l.length ≤ 1073741824) (h4 : 4 ≤ l.length) (hL : Lib0 w) :
    Calls Tryz.prog 19 #[.slice (some ⟨bb, bo, none⟩) l.length c] w (PaR (parseF l) w) := by
  have hmf : ∀ (fn : Fn) (first cap : Array Value) (w : World), (Instr.makeFunc fn first cap).run Tryz.prog w = .ok (.func fn first cap) w := fun _ _ _ _ => rfl
  have kc := PaW0_conv w
  obtain ⟨k, hk⟩ : ∃ k : Nat, (l.take 65536).length = k := ⟨_, rfl⟩
  have hk2 : k = min 65536 l.length := by rw [← hk, List.length_take]
  have hmin : min (l.length : Int) 65536 = (k : Int) := by omega
  have hkn : ((k : Int)).toNat = k := by omega
  have hkl : k ≤ l.length := by omega
  have HW := Lib.hid (PaW.start w)
  have HCC := Lib.hid (PaW0_cc w)
  have HK := Lib.hid hk
  have HC := Lib.hid hc
  have HL := Lib.hid hL
  clear hc hL hk hk2
  go_enter_defers Tryz.func19, Tryz.ntmps19
  go_wp2_with fail
  clear kc
  generalize PaW0 w = W at *
  have HCW : Hid (∀ j u, (bcells l)[j]? = some u → W.cell? ⟨bb, bo + j, none⟩ = some u) := fun j u hj => by
    have h1 := HC.out j u hj
    exact ((bcell HW.out.bl).1 bb (bo + j) (World.block_lt_of_cell? w _ h1)).trans h1
  have HLW := Lib.hid (HL.out.below HW.out.bl)
  have HI := index_any bb bo c (w.heap.size + 1 + 1) (l.take 65536) W (fun j u hj => HCW.out j u (by
    rw [bcells_getElem?] at hj ⊢
    rw [List.getElem?_take] at hj
    split at hj
    · exact hj
    · cases hj)) (by rw [HK.out]; omega) (by rw [HK.out]; omega) HCC.out HLW.out
  rw [HK.out] at HI
  refine HI.mono ?_
  rintro e w1 ⟨rfl, q, rfl⟩
  have HW1 : Hid (PaW w (W.drewN q) w.heap.size) := HW.out.below (below_drewN (Below.refl _ _) q)
  have HC1 : Hid (∀ j u, (bcells l)[j]? = some u → (W.drewN q).cell? ⟨bb, bo + j, none⟩ = some u) := HCW.out
  have HL1 : Hid (Lib0 (W.drewN q)) := HLW.out.below (below_drewN (Below.refl _ _) q)
  generalize W.drewN q = W1 at *
  clear HI HCC HCW HLW HW
  by_cases ha : atP l < 0
  · have hx : Lib.index (List.take 65536 l) CC < 0 := ha
    have hr := parseF_none ha
    generalize Lib.index (List.take 65536 l) CC = x at *
    obtain ⟨c0, c1, c2, c3, c4, c5, c6, c7, c8, f, d0, fd⟩ := HW1.out.cells
    by_cases h65 : 65536 < l.length
    · have h65i : (65536 : Int) < (l.length : Int) := by omega
      have HR : Hid (parseF l = (zeroO, 413)) := by rw [if_pos h65] at hr; exact hr
      clear hr
      go_wp2
      exact door_zero HW1.out rfl rfl HR.out
    · have h65i : ¬ (65536 : Int) < (l.length : Int) := by omega
      have HR : Hid (parseF l = (zeroO, 400)) := by rw [if_neg h65] at hr; exact hr
      clear hr
      go_wp2
      exact door_zero HW1.out rfl rfl HR.out
  · obtain ⟨m, hm⟩ : ∃ m : Nat, atP l = m := ⟨(atP l).toNat, by omega⟩
    obtain ⟨hm1, hm2⟩ := atP_room hm
    have HR := Lib.hid (parseF_at hm)
    rw [show Lib.index (List.take 65536 l) CC = (m : Int) from hm]
    have hmc : m ≤ c := by omega
    have hmi : ¬ (m : Int) < 0 := by omega
    have hml : (l.take m).length = m := by rw [List.length_take]; omega
    have hcell : ∀ (W2 : World), Below W1.heap.size W1 W2 → ∀ j u, (bcells l)[j]? = some u → W2.cell? ⟨bb, bo + j, none⟩ = some u := fun W2 hb j u hj => by
      have h1 := HC1.out j u hj
      exact ((bcell hb).1 bb (bo + j) (World.block_lt_of_cell? _ _ h1)).trans h1
    have HCELL := Lib.hid hcell
    have hcvA : ∀ (W2 : World), Below W1.heap.size W1 W2 → (convert 24 9 (.slice (some ⟨bb, bo, none⟩) m c)).run Tryz.prog W2 = .ok (.string (mkB (l.take m))) W2 := fun W2 hb => by
      have h := run_convert_bytes_back (P := Tryz.prog) W2 24 9 5 ⟨bb, bo, none⟩ c (l.take m) Tryz.underlying24 Tryz.underlying5 Tryz.underlying9 (fun j hj => by
        rw [Lib.add_plain]
        refine hcell W2 hb j _ ?_
        have hj2 : j < l.length := by rw [hml] at hj; omega
        rw [bcells_getElem?, List.getElem?_eq_getElem hj2]
        simp)
      rw [hml] at h
      exact h
    have hcv : (convert 24 9 (.slice (some ⟨bb, bo, none⟩) m c)).run Tryz.prog (W1.alloc (.cells #[.int .u64 0, .int .i64 0, .string ⟨#[]⟩, .string ⟨#[]⟩, .string ⟨#[]⟩, .int .i64 0, .int .u64 0, .slice none 0 0, .slice none 0 0] 73)) = .ok (.string (mkB (l.take m))) (W1.alloc (.cells #[.int .u64 0, .int .i64 0, .string ⟨#[]⟩, .string ⟨#[]⟩, .string ⟨#[]⟩, .int .i64 0, .int .u64 0, .slice none 0 0, .slice none 0 0] 73)) := hcvA _ ((Below.refl _ _).alloc (Nat.le_refl _) _)
    have HSZ : Hid (8 ≤ W1.heap.size ∧ w.heap.size + 2 ≤ W1.heap.size) := by
      have h1 := HW1.out.lt
      have h2 := World.block_lt_of_cell? _ _ HL.out.db
      exact ⟨by have : 5 < w.heap.size := h2; omega, h1⟩
    have HP2 : Hid (PIs (W1.alloc (.cells #[.int .u64 0, .int .i64 0, .string ⟨#[]⟩, .string ⟨#[]⟩, .string ⟨#[]⟩, .int .i64 0, .int .u64 0, .slice none 0 0, .slice none 0 0] 73)) W1.heap.size zeroO (.slice none 0 0) (.slice none 0 0)) := heap_alloc_new W1 _
    have HB2 := Lib.hid ((Below.refl W1.heap.size W1).alloc (Nat.le_refl _) (.cells #[.int .u64 0, .int .i64 0, .string ⟨#[]⟩, .string ⟨#[]⟩, .string ⟨#[]⟩, .int .i64 0, .int .u64 0, .slice none 0 0, .slice none 0 0] 73))
    have HM := Lib.hid hm
    have HML := Lib.hid hml
    clear hcell hcvA ha hm hml
    go_wp2_with fail
    generalize W1.alloc (.cells #[.int .u64 0, .int .i64 0, .string ⟨#[]⟩, .string ⟨#[]⟩, .string ⟨#[]⟩, .int .i64 0, .int .u64 0, .slice none 0 0, .slice none 0 0] 73) = W2 at *
    have HL2 := Lib.hid (HL1.out.below HB2.out)
    refine (head_any (mkB (l.take m)) W2 W2 W1.heap.size HL2.out (BelowX.refl _ W2) HSZ.out.1 (by show (List.toArray _).size ≤ _; rw [List.size_toArray, HML.out]; omega) HP2.out).mono ?_
    rintro e W3 ⟨hb3, ⟨hn, rfl⟩ | ⟨o, t, pv, ho, rfl, hP3, hR3⟩⟩
    · have HW3 := Lib.hid ((HW1.out.below HB2.out).belowX HSZ.out.2 hb3)
      have HRR : Hid (parseF l = (zeroO, 400)) := by unfold Hid; rw [HR.out, hn, bodyP_none]
      unfold badE
      go_wp2_with fail
      exact door_bad HW3.out rfl rfl HRR.out
    · obtain ⟨hrd, hts⟩ := rd_head ho
      have hsz : (mkB (l.take m)).size = m := by show (List.toArray _).size = m; rw [List.size_toArray, HML.out]
      rw [hsz] at hts hrd
      have HW3 := Lib.hid ((HW1.out.below HB2.out).belowX HSZ.out.2 hb3)
      have HC3 : Hid (∀ j u, (bcells l)[j]? = some u → W3.cell? ⟨bb, bo + j, none⟩ = some u) := fun j u hj => by
        have h1 := HCELL.out W2 HB2.out j u hj
        have h2 := HC1.out j u hj
        have h3 := World.block_lt_of_cell? _ _ h2
        exact cellX hb3 h1 (World.block_lt_of_cell? _ _ h1) (by have : bb < W1.heap.size := h3; omega)
      have HL3 := Lib.hid (HL2.out.belowX HSZ.out.1 hb3)
      have HSZ3 : Hid (W1.heap.size < W3.heap.size) := hP3.lt
      have HRD := Lib.hid hrd
      have HO : Hid (parseF l = bodyP l m (some (o, t))) := by unfold Hid; rw [HR.out, ho]
      obtain ⟨pa, pc, rfl⟩ := hR3.c.row.form
      have hil : (icells o.ps).length = o.ps.length := by simp [icells]
      rw [hil] at hP3 hR3
      have HP3 := Lib.hid hP3
      have HR3 := Lib.hid hR3
      have c0 : W3.cell? ⟨W1.heap.size, 0, none⟩ = some (.int .u64 o.id) := hP3.cell 0 _ rfl
      have c1 : W3.cell? ⟨W1.heap.size, 1, none⟩ = some (.int .i64 o.kind) := hP3.cell 1 _ rfl
      have c2 : W3.cell? ⟨W1.heap.size, 2, none⟩ = some (.string o.bu) := hP3.cell 2 _ rfl
      have c3 : W3.cell? ⟨W1.heap.size, 3, none⟩ = some (.string o.ke) := hP3.cell 3 _ rfl
      have c4 : W3.cell? ⟨W1.heap.size, 4, none⟩ = some (.string o.af) := hP3.cell 4 _ rfl
      have c5 : W3.cell? ⟨W1.heap.size, 5, none⟩ = some (.int .i64 o.n) := hP3.cell 5 _ rfl
      have c6 : W3.cell? ⟨W1.heap.size, 6, none⟩ = some (.int .u64 o.up) := hP3.cell 6 _ rfl
      have c7 : W3.cell? ⟨W1.heap.size, 7, none⟩ = some (.slice pa o.ps.length pc) := hP3.cell 7 _ rfl
      have c8 : W3.cell? ⟨W1.heap.size, 8, none⟩ = some (.slice none 0 0) := hP3.cell 8 _ rfl
      have HPR := Lib.hid (print_any o (.slice pa o.ps.length pc) (.slice none 0 0) W3 hR3.c.row (by rw [hrd.da]; exact RowIn.nil _ _ _) (by have := hrd.bu; omega) hrd.ok HL3.out)
      clear hb3 hP3 hR3 hrd ho hil hcv HR HP2 HB2 HL2 hsz
      go_wp2_with fail
      refine HPR.out.mono ?_
      rintro e W4 ⟨ev, rfl, hE4, hb4⟩
      obtain ⟨ea, ec, rfl⟩ := hE4.row.form
      have hel : (bcells (prL o)).length = (prL o).length := bcells_len _
      rw [hel] at hE4
      simp only [hel]
      have HW4 := Lib.hid (HW3.out.below hb4)
      have HP4 := Lib.hid (HP3.out.below hb4 HSZ3.out)
      have HR4 := Lib.hid (HR3.out.below hb4)
      have HE4 := Lib.hid hE4
      have HB4 := Lib.hid hb4
      have HC4 : Hid (∀ j u, (bcells l)[j]? = some u → W4.cell? ⟨bb, bo + j, none⟩ = some u) := fun j u hj => by
        have h1 := HC3.out j u hj
        exact ((bcell hb4).1 bb (bo + j) (World.block_lt_of_cell? _ _ h1)).trans h1
      have HL4 := Lib.hid (HL3.out.below hb4)
      have HSZ4 : Hid (W1.heap.size < W4.heap.size) := Nat.lt_of_lt_of_le HSZ3.out hb4.size
      clear c0 c1 c2 c3 c4 c5 c6 c7 c8 hE4 hb4 hel HPR
      cases hchk : chkB o with
      | false =>
        have HRR : Hid (parseF l = (zeroO, 400)) := by unfold Hid; rw [HO.out, bodyP_chk hchk]
        clear hchk
        simp only [Bool.false_eq_true, if_false]
        go_wp2_with (go_at_call 47; refine (must_no _).mono ?_; rintro e w' ⟨rfl, rfl⟩)
        exact door_bad HW4.out rfl rfl HRR.out
      | true =>
        have HK4 := Lib.hid hchk
        simp only [if_true]
        clear hchk
        obtain ⟨o2, ho2, hsl⟩ := slice_from bb bo l.length c m hm1 hcap
        have HO2 := Lib.hid ho2
        clear ho2
        have c1 : W4.cell? ⟨W1.heap.size, 1, none⟩ = some (.int .i64 o.kind) := HP4.out.cell 1 _ rfl
        have hdl : (l.drop (m + 4)).length = l.length - (m + 4) := List.length_drop
        have HCL : Hid (∀ W', Below W4.heap.size W4 W' → Calls Tryz.prog 49 #[.slice (some ⟨bb, o2, none⟩) (l.length - (m + 4)) (c - (m + 4))] W' (CloR (l.drop (m + 4)) W')) := fun W' hb => by
          have h := clone_any bb o2 (c - (m + 4)) (l.drop (m + 4)) W' (fun j u hj => by
            rw [bcells_getElem?, List.getElem?_drop] at hj
            have hlt : m + 4 + j < l.length := by
              rcases Nat.lt_or_ge (m + 4 + j) l.length with h | h
              · exact h
              · rw [List.getElem?_eq_none h] at hj; cases hj
            have h1 := HC4.out (m + 4 + j) u (by rw [bcells_getElem?]; exact hj)
            rw [HO2.out (by omega), Nat.add_assoc]
            exact ((bcell hb).1 _ _ (World.block_lt_of_cell? _ _ h1)).trans h1) (by rw [hdl]; omega)
          rw [hdl] at h
          exact h
        have HDL := Lib.hid hdl
        clear hdl
        by_cases hkd : o.kind = 3 ∨ o.kind = 8
        · have HKD := Lib.hid hkd
          clear hkd
          by_cases hk : o.kind = 3
          · have hk3b : (o.kind == 3) = true := beq_iff_eq.2 hk
            clear hk
            have HLG := Lib.hid (large_any t W4 (by omega) HL4.out)
            go_wp2_with (first | (go_at_call 47; refine (must_yes _).mono ?_; rintro e w' ⟨rfl, rfl⟩) | (fail))
            refine HLG.out.mono ?_
            rintro e Wb ⟨rfl, hbb⟩
            have HWb := Lib.hid (HW4.out.below hbb)
            have HPb := Lib.hid (HP4.out.below hbb HSZ4.out)
            have HRb := Lib.hid (HR4.out.below hbb)
            have HEb := Lib.hid (HE4.out.below hbb)
            have HLb := Lib.hid (HL4.out.below hbb)
            have HSZb : Hid (W1.heap.size < Wb.heap.size) := Nat.lt_of_lt_of_le HSZ4.out hbb.size
            have HB4b := Lib.hid hbb
            have HCb : Hid (∀ j u, (bcells l)[j]? = some u → Wb.cell? ⟨bb, bo + j, none⟩ = some u) := fun j u hj => by
              have h1 := HC4.out j u hj
              exact ((bcell hbb).1 bb (bo + j) (World.block_lt_of_cell? _ _ h1)).trans h1
            clear hbb c1
            cases hlg : largeF t.data.toList with
            | false =>
              have HSM : Hid (parseF l = if chkB (withDa o (l.drop (m + 4))) = true ∧ printL (withDa o (l.drop (m + 4))) = l then (withDa o (l.drop (m + 4)), 200) else (zeroO, 400)) := by unfold Hid; rw [HO.out, bodyP_small HK4.out (fun h => by rw [hlg] at h; cases h.2)]
              clear hlg
              go_wp2_with fail
              refine (HCL.out _ HB4b.out).mono ?_
              rintro e W5 ⟨dv, rfl, hown5, hb5⟩
              obtain ⟨da, dc, rfl⟩ := (RowC.own hown5).row.form
              have hdn : (bcells (l.drop (m + 4))).length = (l.drop (m + 4)).length := bcells_len _
              rw [hdn] at hown5
              simp only [hdn]
              generalize hdn2 : (l.drop (m + 4)).length = dn at *
              have hX5 : RowX W1.heap.size W5 (.slice da dn dc) (bcells (l.drop (m + 4))) := RowX.own hown5 HSZb.out
              have hW5 := HWb.out.below hb5
              have hP5 := HPb.out.below hb5 HSZb.out
              have hR5 := HRb.out.below hb5
              have hL5 := HLb.out.below hb5
              have hC5 : ∀ j u, (bcells l)[j]? = some u → W5.cell? ⟨bb, bo + j, none⟩ = some u := fun j u hj => by
                have h1 := HCb.out j u hj
                exact ((bcell hb5).1 bb (bo + j) (World.block_lt_of_cell? _ _ h1)).trans h1
              have c8 : W5.cell? ⟨W1.heap.size, 8, none⟩ = some (.slice none 0 0) := hP5.cell 8 _ rfl
              have f8 := hP5.fz 8
              have hsx := (BelowX.refl W1.heap.size W5).setP 8 (.slice da dn dc)
              have HP6 : Hid (PIs (W5.setCell ⟨W1.heap.size, 8, none⟩ (.slice da dn dc)) W1.heap.size (withDa o (l.drop (m + 4))) (.slice pa o.ps.length pc) (.slice da dn dc)) := hP5.set 8 _ rfl
              have HW6 := Lib.hid (hW5.belowX HSZ.out.2 hsx)
              have HR6 := Lib.hid (hR5.set (Nat.le_refl _) 8 (.slice da dn dc))
              have HX6 := Lib.hid (hX5.set (Nat.le_refl _) 8 (.slice da dn dc))
              have HL6 := Lib.hid (hL5.belowX HSZ.out.1 hsx)
              have HC6 : Hid (∀ j u, (bcells l)[j]? = some u → (W5.setCell ⟨W1.heap.size, 8, none⟩ (.slice da dn dc)).cell? ⟨bb, bo + j, none⟩ = some u) := fun j u hj => by
                have h1 := hC5 j u hj
                have h2 := HC1.out j u hj
                have h3 : bb < W1.heap.size := World.block_lt_of_cell? _ _ h2
                rw [World.cell?_of_block (a := ⟨bb, bo + j, none⟩) (Below.heap_setCell W5 ⟨W1.heap.size, 8, none⟩ _ bb (by show bb ≠ W1.heap.size; omega))]
                exact h1
              have HSZ6 : Hid (W1.heap.size < (W5.setCell ⟨W1.heap.size, 8, none⟩ (.slice da dn dc)).heap.size) := HP6.out.lt
              clear hown5 hb5 hX5 hW5 hP5 hR5 hL5 hC5 hsx hdn
              go_upto_region 18 with fail
              generalize W5.setCell ⟨W1.heap.size, 8, none⟩ (.slice da dn dc) = W6 at *
              clear c8 f8
              have c0 : W6.cell? ⟨W1.heap.size, 0, none⟩ = some (.int .u64 o.id) := HP6.out.cell 0 _ rfl
              have c1 : W6.cell? ⟨W1.heap.size, 1, none⟩ = some (.int .i64 o.kind) := HP6.out.cell 1 _ rfl
              have c2 : W6.cell? ⟨W1.heap.size, 2, none⟩ = some (.string o.bu) := HP6.out.cell 2 _ rfl
              have c3 : W6.cell? ⟨W1.heap.size, 3, none⟩ = some (.string o.ke) := HP6.out.cell 3 _ rfl
              have c4 : W6.cell? ⟨W1.heap.size, 4, none⟩ = some (.string o.af) := HP6.out.cell 4 _ rfl
              have c5 : W6.cell? ⟨W1.heap.size, 5, none⟩ = some (.int .i64 o.n) := HP6.out.cell 5 _ rfl
              have c6 : W6.cell? ⟨W1.heap.size, 6, none⟩ = some (.int .u64 o.up) := HP6.out.cell 6 _ rfl
              have c7 : W6.cell? ⟨W1.heap.size, 7, none⟩ = some (.slice pa o.ps.length pc) := HP6.out.cell 7 _ rfl
              have c8 : W6.cell? ⟨W1.heap.size, 8, none⟩ = some (.slice da dn dc) := HP6.out.cell 8 _ rfl
              have HPR6 := Lib.hid (print_any (withDa o (l.drop (m + 4))) (.slice pa o.ps.length pc) (.slice da dn dc) W6 HR6.out.c.row HX6.out.c.row (by show o.bu.size ≤ _; have := HRD.out.bu; omega) ⟨HRD.out.ok.id, HRD.out.ok.up, HRD.out.ok.n0, HRD.out.ok.n1⟩ HL6.out)
              go_wp2_with fail
              refine HPR6.out.mono ?_
              rintro e W7 ⟨av, rfl, hA7, hb7⟩
              obtain ⟨aa, ac, rfl⟩ := hA7.row.form
              have hal : (bcells (prL (withDa o (l.drop (m + 4))))).length = (prL (withDa o (l.drop (m + 4)))).length := bcells_len _
              rw [hal] at hA7
              simp only [hal]
              have HW7 := Lib.hid (HW6.out.below hb7)
              have HP7 := Lib.hid (HP6.out.below hb7 HSZ6.out)
              have HR7 := Lib.hid (HR6.out.below hb7)
              have HX7 := Lib.hid (HX6.out.below hb7)
              have HC7 : Hid (RowIn W7 (.slice (some ⟨bb, bo, none⟩) l.length c) (bcells l)) := by
                refine .inr ⟨bb, bo, c, by rw [bcells_len]; omega, by rw [bcells_len], ?_, fun j u hj => ?_⟩
                · obtain ⟨u, hu⟩ : ∃ u, (bcells l)[0]? = some u := ⟨_, List.getElem?_eq_getElem (by rw [bcells_len]; omega)⟩
                  have h1 := HC6.out 0 u hu
                  exact Nat.lt_of_lt_of_le (World.block_lt_of_cell? _ _ h1) hb7.size
                · have h1 := HC6.out j u hj
                  exact ((bcell hb7).1 bb (bo + j) (World.block_lt_of_cell? _ _ h1)).trans h1
              have HEQ := Lib.hid (flipW (Tryz.bytes_Equal_strs (.slice aa (prL (withDa o (l.drop (m + 4)))).length ac) (.slice (some ⟨bb, bo, none⟩) l.length c) _ _ W7 (convert_row hA7.row) (convert_row HC7.out)))
              clear hA7 hb7 hal HPR6 c0 c1 c2 c3 c4 c5 c6 c7 c8
              cases hchk : chkB (withDa o (l.drop (m + 4))) with
              | false =>
                have HRR : Hid (parseF l = (zeroO, 400)) := by unfold Hid; rw [HSM.out, if_neg (fun h => by rw [hchk] at h; cases h.1)]
                clear hchk
                simp only [Bool.false_eq_true, if_false]
                go_wp2_with (go_at_call 47; refine (must_no _).mono ?_; rintro e w' ⟨rfl, rfl⟩)
                exact door_bad HW7.out rfl rfl HRR.out
              | true =>
                have hpr : prL (withDa o (l.drop (m + 4))) = printL (withDa o (l.drop (m + 4))) := by unfold prL; rw [if_pos hchk]
                rw [hpr] at HEQ
                simp only [if_true, hpr]
                by_cases heq : printL (withDa o (l.drop (m + 4))) = l
                · have HRR : Hid (parseF l = (withDa o (l.drop (m + 4)), 200)) := by unfold Hid; rw [HSM.out, if_pos ⟨hchk, heq⟩]
                  have hq := mk_yes heq
                  obtain ⟨p0, p1, p2, p3, p4, p5, p6, p7, p8, f, d0, fd⟩ := HW7.out.cells
                  have c0 : W7.cell? ⟨W1.heap.size, 0, none⟩ = some (.int .u64 o.id) := HP7.out.cell 0 _ rfl
                  have c1 : W7.cell? ⟨W1.heap.size, 1, none⟩ = some (.int .i64 o.kind) := HP7.out.cell 1 _ rfl
                  have c2 : W7.cell? ⟨W1.heap.size, 2, none⟩ = some (.string o.bu) := HP7.out.cell 2 _ rfl
                  have c3 : W7.cell? ⟨W1.heap.size, 3, none⟩ = some (.string o.ke) := HP7.out.cell 3 _ rfl
                  have c4 : W7.cell? ⟨W1.heap.size, 4, none⟩ = some (.string o.af) := HP7.out.cell 4 _ rfl
                  have c5 : W7.cell? ⟨W1.heap.size, 5, none⟩ = some (.int .i64 o.n) := HP7.out.cell 5 _ rfl
                  have c6 : W7.cell? ⟨W1.heap.size, 6, none⟩ = some (.int .u64 o.up) := HP7.out.cell 6 _ rfl
                  have c7 : W7.cell? ⟨W1.heap.size, 7, none⟩ = some (.slice pa o.ps.length pc) := HP7.out.cell 7 _ rfl
                  have c8 : W7.cell? ⟨W1.heap.size, 8, none⟩ = some (.slice da dn dc) := HP7.out.cell 8 _ rfl
                  clear heq hchk hpr
                  go_wp2_with (first | (go_at_call 50; refine HEQ.out.mono ?_; rintro e w' ⟨rfl, rfl⟩) | (go_at_call 47; refine (must_yes _).mono ?_; rintro e w' ⟨rfl, rfl⟩))
                  exact door_fin (pb := W1.heap.size) (o := withDa o (l.drop (m + 4))) HW7.out (by have := HSZ.out.2; omega) rfl rfl HR7.out HX7.out HRR.out
                · have HRR : Hid (parseF l = (zeroO, 400)) := by unfold Hid; rw [HSM.out, if_neg (fun h => heq h.2)]
                  have hq := mk_no heq
                  clear heq hchk hpr
                  go_wp2_with (first | (go_at_call 50; refine HEQ.out.mono ?_; rintro e w' ⟨rfl, rfl⟩) | (go_at_call 47; refine (must_no _).mono ?_; rintro e w' ⟨rfl, rfl⟩))
                  exact door_bad HW7.out rfl rfl HRR.out
            | true =>
              have HLR : Hid (parseF l = if printL o = l.take (m - t.size) ++ [48, 13, 10, 13, 10] then (zeroO, 413) else (zeroO, 400)) := by unfold Hid; rw [HO.out, bodyP_large HK4.out ⟨HKD.out, hlg⟩]
              have hpr : prL o = printL o := by unfold prL; rw [if_pos HK4.out]
              rw [hpr] at HEb
              simp only [hpr]
              have c8 : Wb.cell? ⟨W1.heap.size, 8, none⟩ = some (.slice none 0 0) := HPb.out.cell 8 _ rfl
              have f8 := HPb.out.fz 8
              have hsx := (BelowX.refl W1.heap.size Wb).setP 8 (.slice none 0 0)
              have HPB : Hid (PIs (Wb.setCell ⟨W1.heap.size, 8, none⟩ (.slice none 0 0)) W1.heap.size o (.slice pa o.ps.length pc) (.slice none 0 0)) := HPb.out.set 8 _ rfl
              have HWB := Lib.hid (HWb.out.belowX HSZ.out.2 hsx)
              have HSX := Lib.hid hsx
              clear hlg hsx hpr
              have HEB : Hid (RowIn (Wb.setCell ⟨W1.heap.size, 8, none⟩ (.slice none 0 0)) (.slice ea (printL o).length ec) (bcells (printL o))) := rowIn_set HEb.out.row (fun b o n c hv hn => row_off HEb.out.row HPb.out hv hn) 8 _
              have HCB : Hid (∀ j u, (bcells l)[j]? = some u → (Wb.setCell ⟨W1.heap.size, 8, none⟩ (.slice none 0 0)).cell? ⟨bb, bo + j, none⟩ = some u) := fun j u hj => by
                have h1 := HCb.out j u hj
                have h2 := HC1.out j u hj
                have h3 : bb < W1.heap.size := World.block_lt_of_cell? _ _ h2
                rw [World.cell?_of_block (a := ⟨bb, bo + j, none⟩) (Below.heap_setCell Wb ⟨W1.heap.size, 8, none⟩ _ bb (by show bb ≠ W1.heap.size; omega))]
                exact h1
              go_upto_region 15 with fail
              generalize Wb.setCell ⟨W1.heap.size, 8, none⟩ (.slice none 0 0) = WB at *
              clear c8 f8
              have hcvE : (convert 24 9 (.slice ea (printL o).length ec)).run Tryz.prog WB.drew = .ok (.string (mkB (printL o))) WB.drew := convert_row (W := WB.drew) HEB.out
              obtain ⟨d, hd⟩ : ∃ d : Nat, m - t.size = d := ⟨_, rfl⟩
              have hdi : (m : Int) - (t.size : Int) = (d : Int) := by omega
              have hdm : d ≤ m := by omega
              have hdc : d ≤ c := by omega
              have hdci : (d : Int) ≤ (c : Int) := by omega
              have hdl : (l.take d).length = d := by rw [List.length_take]; omega
              have hcvT : (convert 24 9 (.slice (some ⟨bb, bo, none⟩) d c)).run Tryz.prog WB.drew = .ok (.string (mkB (l.take d))) WB.drew := by
                have h := run_convert_bytes_back (P := Tryz.prog) WB.drew 24 9 5 ⟨bb, bo, none⟩ c (l.take d) Tryz.underlying24 Tryz.underlying5 Tryz.underlying9 (fun j hj => by
                  rw [Lib.add_plain]
                  have hj2 : j < l.length := by rw [hdl] at hj; omega
                  refine HCB.out j _ ?_
                  rw [bcells_getElem?, List.getElem?_eq_getElem hj2]
                  simp)
                rw [hdl] at h
                exact h
              have hsub : IntKind.i64.wrap ((m : Int) - (t.size : Int)) = (d : Int) := by rw [hdi]; exact IntWalk.i64_in _ (by omega)
              have hz : (mkB (l.take d)).size = d := by show (List.toArray _).size = d; rw [List.size_toArray, hdl]
              have n1 : ¬ 9223372036854775807 < (mkB (l.take d)).size + 1 := by omega
              have n2 : ¬ 9223372036854775807 < (mkB (l.take d)).size + 1 + 2 := by omega
              have n3 : ¬ 9223372036854775807 < (mkB (l.take d)).size + 1 + 2 + 2 := by omega
              have HZ := Lib.hid hz
              rw [hd] at HLR
              clear hz hd hdl hdi
              by_cases heq : printL o = l.take d ++ [48, 13, 10, 13, 10]
              · have HRR : Hid (parseF l = (zeroO, 413)) := by unfold Hid; rw [HLR.out, if_pos heq]
                have hq : ((mkB (printL o)).toList == (mkB (l.take d) ++ ⟨#[48]⟩ ++ ⟨#[13, 10]⟩ ++ ⟨#[13, 10]⟩).toList) = true := by rw [mk_app]; exact mk_yes heq
                clear heq
                go_still_tail 13, (by kernel_rfl)
                have HWD : Hid (PaW w WB.drew w.heap.size) := HWB.out.below (below_drewN (Below.refl _ _) 1)
                obtain ⟨p0, p1, p2, p3, p4, p5, p6, p7, p8, f, d0, fd⟩ := HWD.out.cells
                change wpList _ _ _ _ _ WB.drew
                generalize WB.drew = WD at *
                clear hcvE hcvT hsub n1 n2 n3 hq
                go_wp2_with (go_at_call 47; refine (must_yes _).mono ?_; rintro e w' ⟨rfl, rfl⟩)
                refine door_zero HWD.out ?_ ?_ HRR.out
                all_goals rfl
              · have HRR : Hid (parseF l = (zeroO, 400)) := by unfold Hid; rw [HLR.out, if_neg heq]
                have hq : ((mkB (printL o)).toList == (mkB (l.take d) ++ ⟨#[48]⟩ ++ ⟨#[13, 10]⟩ ++ ⟨#[13, 10]⟩).toList) = false := by rw [mk_app]; exact mk_no heq
                clear heq
                go_still_tail 13, (by kernel_rfl)
                have HWD : Hid (PaW w WB.drew w.heap.size) := HWB.out.below (below_drewN (Below.refl _ _) 1)
                change wpList _ _ _ _ _ WB.drew
                generalize WB.drew = WD at *
                clear hcvE hcvT hsub n1 n2 n3 hq
                go_wp2_with (go_at_call 47; refine (must_no _).mono ?_; rintro e w' ⟨rfl, rfl⟩)
                refine door_bad HWD.out ?_ ?_ HRR.out
                all_goals rfl
          · have hk8 : o.kind = 8 := HKD.out.resolve_left hk
            have hk3b : (o.kind == 3) = false := beq_eq_false_iff_ne.2 hk
            have hk8b : (o.kind == 8) = true := beq_iff_eq.2 hk8
            clear hk hk8
            have HLG := Lib.hid (large_any t W4 (by omega) HL4.out)
            go_wp2_with (first | (go_at_call 47; refine (must_yes _).mono ?_; rintro e w' ⟨rfl, rfl⟩) | (fail))
            refine HLG.out.mono ?_
            rintro e Wb ⟨rfl, hbb⟩
            have HWb := Lib.hid (HW4.out.below hbb)
            have HPb := Lib.hid (HP4.out.below hbb HSZ4.out)
            have HRb := Lib.hid (HR4.out.below hbb)
            have HEb := Lib.hid (HE4.out.below hbb)
            have HLb := Lib.hid (HL4.out.below hbb)
            have HSZb : Hid (W1.heap.size < Wb.heap.size) := Nat.lt_of_lt_of_le HSZ4.out hbb.size
            have HB4b := Lib.hid hbb
            have HCb : Hid (∀ j u, (bcells l)[j]? = some u → Wb.cell? ⟨bb, bo + j, none⟩ = some u) := fun j u hj => by
              have h1 := HC4.out j u hj
              exact ((bcell hbb).1 bb (bo + j) (World.block_lt_of_cell? _ _ h1)).trans h1
            clear hbb c1
            cases hlg : largeF t.data.toList with
            | false =>
              have HSM : Hid (parseF l = if chkB (withDa o (l.drop (m + 4))) = true ∧ printL (withDa o (l.drop (m + 4))) = l then (withDa o (l.drop (m + 4)), 200) else (zeroO, 400)) := by unfold Hid; rw [HO.out, bodyP_small HK4.out (fun h => by rw [hlg] at h; cases h.2)]
              clear hlg
              go_wp2_with fail
              refine (HCL.out _ HB4b.out).mono ?_
              rintro e W5 ⟨dv, rfl, hown5, hb5⟩
              obtain ⟨da, dc, rfl⟩ := (RowC.own hown5).row.form
              have hdn : (bcells (l.drop (m + 4))).length = (l.drop (m + 4)).length := bcells_len _
              rw [hdn] at hown5
              simp only [hdn]
              generalize hdn2 : (l.drop (m + 4)).length = dn at *
              have hX5 : RowX W1.heap.size W5 (.slice da dn dc) (bcells (l.drop (m + 4))) := RowX.own hown5 HSZb.out
              have hW5 := HWb.out.below hb5
              have hP5 := HPb.out.below hb5 HSZb.out
              have hR5 := HRb.out.below hb5
              have hL5 := HLb.out.below hb5
              have hC5 : ∀ j u, (bcells l)[j]? = some u → W5.cell? ⟨bb, bo + j, none⟩ = some u := fun j u hj => by
                have h1 := HCb.out j u hj
                exact ((bcell hb5).1 bb (bo + j) (World.block_lt_of_cell? _ _ h1)).trans h1
              have c8 : W5.cell? ⟨W1.heap.size, 8, none⟩ = some (.slice none 0 0) := hP5.cell 8 _ rfl
              have f8 := hP5.fz 8
              have hsx := (BelowX.refl W1.heap.size W5).setP 8 (.slice da dn dc)
              have HP6 : Hid (PIs (W5.setCell ⟨W1.heap.size, 8, none⟩ (.slice da dn dc)) W1.heap.size (withDa o (l.drop (m + 4))) (.slice pa o.ps.length pc) (.slice da dn dc)) := hP5.set 8 _ rfl
              have HW6 := Lib.hid (hW5.belowX HSZ.out.2 hsx)
              have HR6 := Lib.hid (hR5.set (Nat.le_refl _) 8 (.slice da dn dc))
              have HX6 := Lib.hid (hX5.set (Nat.le_refl _) 8 (.slice da dn dc))
              have HL6 := Lib.hid (hL5.belowX HSZ.out.1 hsx)
              have HC6 : Hid (∀ j u, (bcells l)[j]? = some u → (W5.setCell ⟨W1.heap.size, 8, none⟩ (.slice da dn dc)).cell? ⟨bb, bo + j, none⟩ = some u) := fun j u hj => by
                have h1 := hC5 j u hj
                have h2 := HC1.out j u hj
                have h3 : bb < W1.heap.size := World.block_lt_of_cell? _ _ h2
                rw [World.cell?_of_block (a := ⟨bb, bo + j, none⟩) (Below.heap_setCell W5 ⟨W1.heap.size, 8, none⟩ _ bb (by show bb ≠ W1.heap.size; omega))]
                exact h1
              have HSZ6 : Hid (W1.heap.size < (W5.setCell ⟨W1.heap.size, 8, none⟩ (.slice da dn dc)).heap.size) := HP6.out.lt
              clear hown5 hb5 hX5 hW5 hP5 hR5 hL5 hC5 hsx hdn
              go_upto_region 18 with fail
              generalize W5.setCell ⟨W1.heap.size, 8, none⟩ (.slice da dn dc) = W6 at *
              clear c8 f8
              have c0 : W6.cell? ⟨W1.heap.size, 0, none⟩ = some (.int .u64 o.id) := HP6.out.cell 0 _ rfl
              have c1 : W6.cell? ⟨W1.heap.size, 1, none⟩ = some (.int .i64 o.kind) := HP6.out.cell 1 _ rfl
              have c2 : W6.cell? ⟨W1.heap.size, 2, none⟩ = some (.string o.bu) := HP6.out.cell 2 _ rfl
              have c3 : W6.cell? ⟨W1.heap.size, 3, none⟩ = some (.string o.ke) := HP6.out.cell 3 _ rfl
              have c4 : W6.cell? ⟨W1.heap.size, 4, none⟩ = some (.string o.af) := HP6.out.cell 4 _ rfl
              have c5 : W6.cell? ⟨W1.heap.size, 5, none⟩ = some (.int .i64 o.n) := HP6.out.cell 5 _ rfl
              have c6 : W6.cell? ⟨W1.heap.size, 6, none⟩ = some (.int .u64 o.up) := HP6.out.cell 6 _ rfl
              have c7 : W6.cell? ⟨W1.heap.size, 7, none⟩ = some (.slice pa o.ps.length pc) := HP6.out.cell 7 _ rfl
              have c8 : W6.cell? ⟨W1.heap.size, 8, none⟩ = some (.slice da dn dc) := HP6.out.cell 8 _ rfl
              have HPR6 := Lib.hid (print_any (withDa o (l.drop (m + 4))) (.slice pa o.ps.length pc) (.slice da dn dc) W6 HR6.out.c.row HX6.out.c.row (by show o.bu.size ≤ _; have := HRD.out.bu; omega) ⟨HRD.out.ok.id, HRD.out.ok.up, HRD.out.ok.n0, HRD.out.ok.n1⟩ HL6.out)
              go_wp2_with fail
              refine HPR6.out.mono ?_
              rintro e W7 ⟨av, rfl, hA7, hb7⟩
              obtain ⟨aa, ac, rfl⟩ := hA7.row.form
              have hal : (bcells (prL (withDa o (l.drop (m + 4))))).length = (prL (withDa o (l.drop (m + 4)))).length := bcells_len _
              rw [hal] at hA7
              simp only [hal]
              have HW7 := Lib.hid (HW6.out.below hb7)
              have HP7 := Lib.hid (HP6.out.below hb7 HSZ6.out)
              have HR7 := Lib.hid (HR6.out.below hb7)
              have HX7 := Lib.hid (HX6.out.below hb7)
              have HC7 : Hid (RowIn W7 (.slice (some ⟨bb, bo, none⟩) l.length c) (bcells l)) := by
                refine .inr ⟨bb, bo, c, by rw [bcells_len]; omega, by rw [bcells_len], ?_, fun j u hj => ?_⟩
                · obtain ⟨u, hu⟩ : ∃ u, (bcells l)[0]? = some u := ⟨_, List.getElem?_eq_getElem (by rw [bcells_len]; omega)⟩
                  have h1 := HC6.out 0 u hu
                  exact Nat.lt_of_lt_of_le (World.block_lt_of_cell? _ _ h1) hb7.size
                · have h1 := HC6.out j u hj
                  exact ((bcell hb7).1 bb (bo + j) (World.block_lt_of_cell? _ _ h1)).trans h1
              have HEQ := Lib.hid (flipW (Tryz.bytes_Equal_strs (.slice aa (prL (withDa o (l.drop (m + 4)))).length ac) (.slice (some ⟨bb, bo, none⟩) l.length c) _ _ W7 (convert_row hA7.row) (convert_row HC7.out)))
              clear hA7 hb7 hal HPR6 c0 c1 c2 c3 c4 c5 c6 c7 c8
              cases hchk : chkB (withDa o (l.drop (m + 4))) with
              | false =>
                have HRR : Hid (parseF l = (zeroO, 400)) := by unfold Hid; rw [HSM.out, if_neg (fun h => by rw [hchk] at h; cases h.1)]
                clear hchk
                simp only [Bool.false_eq_true, if_false]
                go_wp2_with (go_at_call 47; refine (must_no _).mono ?_; rintro e w' ⟨rfl, rfl⟩)
                exact door_bad HW7.out rfl rfl HRR.out
              | true =>
                have hpr : prL (withDa o (l.drop (m + 4))) = printL (withDa o (l.drop (m + 4))) := by unfold prL; rw [if_pos hchk]
                rw [hpr] at HEQ
                simp only [if_true, hpr]
                by_cases heq : printL (withDa o (l.drop (m + 4))) = l
                · have HRR : Hid (parseF l = (withDa o (l.drop (m + 4)), 200)) := by unfold Hid; rw [HSM.out, if_pos ⟨hchk, heq⟩]
                  have hq := mk_yes heq
                  obtain ⟨p0, p1, p2, p3, p4, p5, p6, p7, p8, f, d0, fd⟩ := HW7.out.cells
                  have c0 : W7.cell? ⟨W1.heap.size, 0, none⟩ = some (.int .u64 o.id) := HP7.out.cell 0 _ rfl
                  have c1 : W7.cell? ⟨W1.heap.size, 1, none⟩ = some (.int .i64 o.kind) := HP7.out.cell 1 _ rfl
                  have c2 : W7.cell? ⟨W1.heap.size, 2, none⟩ = some (.string o.bu) := HP7.out.cell 2 _ rfl
                  have c3 : W7.cell? ⟨W1.heap.size, 3, none⟩ = some (.string o.ke) := HP7.out.cell 3 _ rfl
                  have c4 : W7.cell? ⟨W1.heap.size, 4, none⟩ = some (.string o.af) := HP7.out.cell 4 _ rfl
                  have c5 : W7.cell? ⟨W1.heap.size, 5, none⟩ = some (.int .i64 o.n) := HP7.out.cell 5 _ rfl
                  have c6 : W7.cell? ⟨W1.heap.size, 6, none⟩ = some (.int .u64 o.up) := HP7.out.cell 6 _ rfl
                  have c7 : W7.cell? ⟨W1.heap.size, 7, none⟩ = some (.slice pa o.ps.length pc) := HP7.out.cell 7 _ rfl
                  have c8 : W7.cell? ⟨W1.heap.size, 8, none⟩ = some (.slice da dn dc) := HP7.out.cell 8 _ rfl
                  clear heq hchk hpr
                  go_wp2_with (first | (go_at_call 50; refine HEQ.out.mono ?_; rintro e w' ⟨rfl, rfl⟩) | (go_at_call 47; refine (must_yes _).mono ?_; rintro e w' ⟨rfl, rfl⟩))
                  exact door_fin (pb := W1.heap.size) (o := withDa o (l.drop (m + 4))) HW7.out (by have := HSZ.out.2; omega) rfl rfl HR7.out HX7.out HRR.out
                · have HRR : Hid (parseF l = (zeroO, 400)) := by unfold Hid; rw [HSM.out, if_neg (fun h => heq h.2)]
                  have hq := mk_no heq
                  clear heq hchk hpr
                  go_wp2_with (first | (go_at_call 50; refine HEQ.out.mono ?_; rintro e w' ⟨rfl, rfl⟩) | (go_at_call 47; refine (must_no _).mono ?_; rintro e w' ⟨rfl, rfl⟩))
                  exact door_bad HW7.out rfl rfl HRR.out
            | true =>
              have HLR : Hid (parseF l = if printL o = l.take (m - t.size) ++ [48, 13, 10, 13, 10] then (zeroO, 413) else (zeroO, 400)) := by unfold Hid; rw [HO.out, bodyP_large HK4.out ⟨HKD.out, hlg⟩]
              have hpr : prL o = printL o := by unfold prL; rw [if_pos HK4.out]
              rw [hpr] at HEb
              simp only [hpr]
              have c8 : Wb.cell? ⟨W1.heap.size, 8, none⟩ = some (.slice none 0 0) := HPb.out.cell 8 _ rfl
              have f8 := HPb.out.fz 8
              have hsx := (BelowX.refl W1.heap.size Wb).setP 8 (.slice none 0 0)
              have HPB : Hid (PIs (Wb.setCell ⟨W1.heap.size, 8, none⟩ (.slice none 0 0)) W1.heap.size o (.slice pa o.ps.length pc) (.slice none 0 0)) := HPb.out.set 8 _ rfl
              have HWB := Lib.hid (HWb.out.belowX HSZ.out.2 hsx)
              have HSX := Lib.hid hsx
              clear hlg hsx hpr
              have HEB : Hid (RowIn (Wb.setCell ⟨W1.heap.size, 8, none⟩ (.slice none 0 0)) (.slice ea (printL o).length ec) (bcells (printL o))) := rowIn_set HEb.out.row (fun b o n c hv hn => row_off HEb.out.row HPb.out hv hn) 8 _
              have HCB : Hid (∀ j u, (bcells l)[j]? = some u → (Wb.setCell ⟨W1.heap.size, 8, none⟩ (.slice none 0 0)).cell? ⟨bb, bo + j, none⟩ = some u) := fun j u hj => by
                have h1 := HCb.out j u hj
                have h2 := HC1.out j u hj
                have h3 : bb < W1.heap.size := World.block_lt_of_cell? _ _ h2
                rw [World.cell?_of_block (a := ⟨bb, bo + j, none⟩) (Below.heap_setCell Wb ⟨W1.heap.size, 8, none⟩ _ bb (by show bb ≠ W1.heap.size; omega))]
                exact h1
              go_upto_region 15 with fail
              generalize Wb.setCell ⟨W1.heap.size, 8, none⟩ (.slice none 0 0) = WB at *
              clear c8 f8
              have hcvE : (convert 24 9 (.slice ea (printL o).length ec)).run Tryz.prog WB.drew = .ok (.string (mkB (printL o))) WB.drew := convert_row (W := WB.drew) HEB.out
              obtain ⟨d, hd⟩ : ∃ d : Nat, m - t.size = d := ⟨_, rfl⟩
              have hdi : (m : Int) - (t.size : Int) = (d : Int) := by omega
              have hdm : d ≤ m := by omega
              have hdc : d ≤ c := by omega
              have hdci : (d : Int) ≤ (c : Int) := by omega
              have hdl : (l.take d).length = d := by rw [List.length_take]; omega
              have hcvT : (convert 24 9 (.slice (some ⟨bb, bo, none⟩) d c)).run Tryz.prog WB.drew = .ok (.string (mkB (l.take d))) WB.drew := by
                have h := run_convert_bytes_back (P := Tryz.prog) WB.drew 24 9 5 ⟨bb, bo, none⟩ c (l.take d) Tryz.underlying24 Tryz.underlying5 Tryz.underlying9 (fun j hj => by
                  rw [Lib.add_plain]
                  have hj2 : j < l.length := by rw [hdl] at hj; omega
                  refine HCB.out j _ ?_
                  rw [bcells_getElem?, List.getElem?_eq_getElem hj2]
                  simp)
                rw [hdl] at h
                exact h
              have hsub : IntKind.i64.wrap ((m : Int) - (t.size : Int)) = (d : Int) := by rw [hdi]; exact IntWalk.i64_in _ (by omega)
              have hz : (mkB (l.take d)).size = d := by show (List.toArray _).size = d; rw [List.size_toArray, hdl]
              have n1 : ¬ 9223372036854775807 < (mkB (l.take d)).size + 1 := by omega
              have n2 : ¬ 9223372036854775807 < (mkB (l.take d)).size + 1 + 2 := by omega
              have n3 : ¬ 9223372036854775807 < (mkB (l.take d)).size + 1 + 2 + 2 := by omega
              have HZ := Lib.hid hz
              rw [hd] at HLR
              clear hz hd hdl hdi
              by_cases heq : printL o = l.take d ++ [48, 13, 10, 13, 10]
              · have HRR : Hid (parseF l = (zeroO, 413)) := by unfold Hid; rw [HLR.out, if_pos heq]
                have hq : ((mkB (printL o)).toList == (mkB (l.take d) ++ ⟨#[48]⟩ ++ ⟨#[13, 10]⟩ ++ ⟨#[13, 10]⟩).toList) = true := by rw [mk_app]; exact mk_yes heq
                clear heq
                go_still_tail 13, (by kernel_rfl)
                have HWD : Hid (PaW w WB.drew w.heap.size) := HWB.out.below (below_drewN (Below.refl _ _) 1)
                obtain ⟨p0, p1, p2, p3, p4, p5, p6, p7, p8, f, d0, fd⟩ := HWD.out.cells
                change wpList _ _ _ _ _ WB.drew
                generalize WB.drew = WD at *
                clear hcvE hcvT hsub n1 n2 n3 hq
                go_wp2_with (go_at_call 47; refine (must_yes _).mono ?_; rintro e w' ⟨rfl, rfl⟩)
                refine door_zero HWD.out ?_ ?_ HRR.out
                all_goals rfl
              · have HRR : Hid (parseF l = (zeroO, 400)) := by unfold Hid; rw [HLR.out, if_neg heq]
                have hq : ((mkB (printL o)).toList == (mkB (l.take d) ++ ⟨#[48]⟩ ++ ⟨#[13, 10]⟩ ++ ⟨#[13, 10]⟩).toList) = false := by rw [mk_app]; exact mk_no heq
                clear heq
                go_still_tail 13, (by kernel_rfl)
                have HWD : Hid (PaW w WB.drew w.heap.size) := HWB.out.below (below_drewN (Below.refl _ _) 1)
                change wpList _ _ _ _ _ WB.drew
                generalize WB.drew = WD at *
                clear hcvE hcvT hsub n1 n2 n3 hq
                go_wp2_with (go_at_call 47; refine (must_no _).mono ?_; rintro e w' ⟨rfl, rfl⟩)
                refine door_bad HWD.out ?_ ?_ HRR.out
                all_goals rfl
        · have hk3b : (o.kind == 3) = false := beq_eq_false_iff_ne.2 (fun e => hkd (.inl e))
          have hk8b : (o.kind == 8) = false := beq_eq_false_iff_ne.2 (fun e => hkd (.inr e))
          have HSM : Hid (parseF l = if chkB (withDa o (l.drop (m + 4))) = true ∧ printL (withDa o (l.drop (m + 4))) = l then (withDa o (l.drop (m + 4)), 200) else (zeroO, 400)) := by unfold Hid; rw [HO.out, bodyP_small HK4.out (fun h => hkd h.1)]
          clear hkd
          go_wp2_with (first | (go_at_call 47; refine (must_yes _).mono ?_; rintro e w' ⟨rfl, rfl⟩) | (fail))
          refine (HCL.out _ (Below.refl _ _)).mono ?_
          rintro e W5 ⟨dv, rfl, hown5, hb5⟩
          obtain ⟨da, dc, rfl⟩ := (RowC.own hown5).row.form
          have hdn : (bcells (l.drop (m + 4))).length = (l.drop (m + 4)).length := bcells_len _
          rw [hdn] at hown5
          simp only [hdn]
          generalize hdn2 : (l.drop (m + 4)).length = dn at *
          have hX5 : RowX W1.heap.size W5 (.slice da dn dc) (bcells (l.drop (m + 4))) := RowX.own hown5 HSZ4.out
          have hW5 := HW4.out.below hb5
          have hP5 := HP4.out.below hb5 HSZ4.out
          have hR5 := HR4.out.below hb5
          have hL5 := HL4.out.below hb5
          have hC5 : ∀ j u, (bcells l)[j]? = some u → W5.cell? ⟨bb, bo + j, none⟩ = some u := fun j u hj => by
            have h1 := HC4.out j u hj
            exact ((bcell hb5).1 bb (bo + j) (World.block_lt_of_cell? _ _ h1)).trans h1
          have c8 : W5.cell? ⟨W1.heap.size, 8, none⟩ = some (.slice none 0 0) := hP5.cell 8 _ rfl
          have f8 := hP5.fz 8
          have hsx := (BelowX.refl W1.heap.size W5).setP 8 (.slice da dn dc)
          have HP6 : Hid (PIs (W5.setCell ⟨W1.heap.size, 8, none⟩ (.slice da dn dc)) W1.heap.size (withDa o (l.drop (m + 4))) (.slice pa o.ps.length pc) (.slice da dn dc)) := hP5.set 8 _ rfl
          have HW6 := Lib.hid (hW5.belowX HSZ.out.2 hsx)
          have HR6 := Lib.hid (hR5.set (Nat.le_refl _) 8 (.slice da dn dc))
          have HX6 := Lib.hid (hX5.set (Nat.le_refl _) 8 (.slice da dn dc))
          have HL6 := Lib.hid (hL5.belowX HSZ.out.1 hsx)
          have HC6 : Hid (∀ j u, (bcells l)[j]? = some u → (W5.setCell ⟨W1.heap.size, 8, none⟩ (.slice da dn dc)).cell? ⟨bb, bo + j, none⟩ = some u) := fun j u hj => by
            have h1 := hC5 j u hj
            have h2 := HC1.out j u hj
            have h3 : bb < W1.heap.size := World.block_lt_of_cell? _ _ h2
            rw [World.cell?_of_block (a := ⟨bb, bo + j, none⟩) (Below.heap_setCell W5 ⟨W1.heap.size, 8, none⟩ _ bb (by show bb ≠ W1.heap.size; omega))]
            exact h1
          have HSZ6 : Hid (W1.heap.size < (W5.setCell ⟨W1.heap.size, 8, none⟩ (.slice da dn dc)).heap.size) := HP6.out.lt
          clear hown5 hb5 hX5 hW5 hP5 hR5 hL5 hC5 hsx hdn
          go_upto_region 18 with fail
          generalize W5.setCell ⟨W1.heap.size, 8, none⟩ (.slice da dn dc) = W6 at *
          clear c8 f8
          have c0 : W6.cell? ⟨W1.heap.size, 0, none⟩ = some (.int .u64 o.id) := HP6.out.cell 0 _ rfl
          have c1 : W6.cell? ⟨W1.heap.size, 1, none⟩ = some (.int .i64 o.kind) := HP6.out.cell 1 _ rfl
          have c2 : W6.cell? ⟨W1.heap.size, 2, none⟩ = some (.string o.bu) := HP6.out.cell 2 _ rfl
          have c3 : W6.cell? ⟨W1.heap.size, 3, none⟩ = some (.string o.ke) := HP6.out.cell 3 _ rfl
          have c4 : W6.cell? ⟨W1.heap.size, 4, none⟩ = some (.string o.af) := HP6.out.cell 4 _ rfl
          have c5 : W6.cell? ⟨W1.heap.size, 5, none⟩ = some (.int .i64 o.n) := HP6.out.cell 5 _ rfl
          have c6 : W6.cell? ⟨W1.heap.size, 6, none⟩ = some (.int .u64 o.up) := HP6.out.cell 6 _ rfl
          have c7 : W6.cell? ⟨W1.heap.size, 7, none⟩ = some (.slice pa o.ps.length pc) := HP6.out.cell 7 _ rfl
          have c8 : W6.cell? ⟨W1.heap.size, 8, none⟩ = some (.slice da dn dc) := HP6.out.cell 8 _ rfl
          have HPR6 := Lib.hid (print_any (withDa o (l.drop (m + 4))) (.slice pa o.ps.length pc) (.slice da dn dc) W6 HR6.out.c.row HX6.out.c.row (by show o.bu.size ≤ _; have := HRD.out.bu; omega) ⟨HRD.out.ok.id, HRD.out.ok.up, HRD.out.ok.n0, HRD.out.ok.n1⟩ HL6.out)
          go_wp2_with fail
          refine HPR6.out.mono ?_
          rintro e W7 ⟨av, rfl, hA7, hb7⟩
          obtain ⟨aa, ac, rfl⟩ := hA7.row.form
          have hal : (bcells (prL (withDa o (l.drop (m + 4))))).length = (prL (withDa o (l.drop (m + 4)))).length := bcells_len _
          rw [hal] at hA7
          simp only [hal]
          have HW7 := Lib.hid (HW6.out.below hb7)
          have HP7 := Lib.hid (HP6.out.below hb7 HSZ6.out)
          have HR7 := Lib.hid (HR6.out.below hb7)
          have HX7 := Lib.hid (HX6.out.below hb7)
          have HC7 : Hid (RowIn W7 (.slice (some ⟨bb, bo, none⟩) l.length c) (bcells l)) := by
            refine .inr ⟨bb, bo, c, by rw [bcells_len]; omega, by rw [bcells_len], ?_, fun j u hj => ?_⟩
            · obtain ⟨u, hu⟩ : ∃ u, (bcells l)[0]? = some u := ⟨_, List.getElem?_eq_getElem (by rw [bcells_len]; omega)⟩
              have h1 := HC6.out 0 u hu
              exact Nat.lt_of_lt_of_le (World.block_lt_of_cell? _ _ h1) hb7.size
            · have h1 := HC6.out j u hj
              exact ((bcell hb7).1 bb (bo + j) (World.block_lt_of_cell? _ _ h1)).trans h1
          have HEQ := Lib.hid (flipW (Tryz.bytes_Equal_strs (.slice aa (prL (withDa o (l.drop (m + 4)))).length ac) (.slice (some ⟨bb, bo, none⟩) l.length c) _ _ W7 (convert_row hA7.row) (convert_row HC7.out)))
          clear hA7 hb7 hal HPR6 c0 c1 c2 c3 c4 c5 c6 c7 c8
          cases hchk : chkB (withDa o (l.drop (m + 4))) with
          | false =>
            have HRR : Hid (parseF l = (zeroO, 400)) := by unfold Hid; rw [HSM.out, if_neg (fun h => by rw [hchk] at h; cases h.1)]
            clear hchk
            simp only [Bool.false_eq_true, if_false]
            go_wp2_with (go_at_call 47; refine (must_no _).mono ?_; rintro e w' ⟨rfl, rfl⟩)
            exact door_bad HW7.out rfl rfl HRR.out
          | true =>
            have hpr : prL (withDa o (l.drop (m + 4))) = printL (withDa o (l.drop (m + 4))) := by unfold prL; rw [if_pos hchk]
            rw [hpr] at HEQ
            simp only [if_true, hpr]
            by_cases heq : printL (withDa o (l.drop (m + 4))) = l
            · have HRR : Hid (parseF l = (withDa o (l.drop (m + 4)), 200)) := by unfold Hid; rw [HSM.out, if_pos ⟨hchk, heq⟩]
              have hq := mk_yes heq
              obtain ⟨p0, p1, p2, p3, p4, p5, p6, p7, p8, f, d0, fd⟩ := HW7.out.cells
              have c0 : W7.cell? ⟨W1.heap.size, 0, none⟩ = some (.int .u64 o.id) := HP7.out.cell 0 _ rfl
              have c1 : W7.cell? ⟨W1.heap.size, 1, none⟩ = some (.int .i64 o.kind) := HP7.out.cell 1 _ rfl
              have c2 : W7.cell? ⟨W1.heap.size, 2, none⟩ = some (.string o.bu) := HP7.out.cell 2 _ rfl
              have c3 : W7.cell? ⟨W1.heap.size, 3, none⟩ = some (.string o.ke) := HP7.out.cell 3 _ rfl
              have c4 : W7.cell? ⟨W1.heap.size, 4, none⟩ = some (.string o.af) := HP7.out.cell 4 _ rfl
              have c5 : W7.cell? ⟨W1.heap.size, 5, none⟩ = some (.int .i64 o.n) := HP7.out.cell 5 _ rfl
              have c6 : W7.cell? ⟨W1.heap.size, 6, none⟩ = some (.int .u64 o.up) := HP7.out.cell 6 _ rfl
              have c7 : W7.cell? ⟨W1.heap.size, 7, none⟩ = some (.slice pa o.ps.length pc) := HP7.out.cell 7 _ rfl
              have c8 : W7.cell? ⟨W1.heap.size, 8, none⟩ = some (.slice da dn dc) := HP7.out.cell 8 _ rfl
              clear heq hchk hpr
              go_wp2_with (first | (go_at_call 50; refine HEQ.out.mono ?_; rintro e w' ⟨rfl, rfl⟩) | (go_at_call 47; refine (must_yes _).mono ?_; rintro e w' ⟨rfl, rfl⟩))
              exact door_fin (pb := W1.heap.size) (o := withDa o (l.drop (m + 4))) HW7.out (by have := HSZ.out.2; omega) rfl rfl HR7.out HX7.out HRR.out
            · have HRR : Hid (parseF l = (zeroO, 400)) := by unfold Hid; rw [HSM.out, if_neg (fun h => heq h.2)]
              have hq := mk_no heq
              clear heq hchk hpr
              go_wp2_with (first | (go_at_call 50; refine HEQ.out.mono ?_; rintro e w' ⟨rfl, rfl⟩) | (go_at_call 47; refine (must_no _).mono ?_; rintro e w' ⟨rfl, rfl⟩))
              exact door_bad HW7.out rfl rfl HRR.out
end Go.Proofs.YtnlooggibopknaaGreatDoor

/- The walk of front.Parse at few bytes; at any bytes. -/
namespace Go.Proofs.YtnlooggibopknaaGreatDoor
open Go.RowKit Go.Sort

theorem slice_to (a : Option Addr) (n c : Nat) (hc : n ≤ c) (ha : a = none → n = 0) : ∀ W, (Instr.slice 24 (.slice a n c) none (some (.int .i64 (n : Int))) none).run Tryz.prog W = .ok (.slice a n c) W := fun W => by
  cases a with
  | none =>
    obtain rfl := ha rfl
    go_simp
  | some a => go_simp

set_option maxHeartbeats 1000000 in
set_option maxRecDepth 1000000 in
theorem parse_short (l : List UInt8) (a : Option Addr) (c : Nat) (w : World) (hcap : l.length ≤ c) (ha : a = none → l.length = 0) (h4 : l.length < 4) (_hL : Lib0 w) :
    Calls Tryz.prog 19 #[.slice a l.length c] w (PaR (parseF l) w) := by
  have hmf : ∀ (fn : Fn) (first cap : Array Value) (w : World), (Instr.makeFunc fn first cap).run Tryz.prog w = .ok (.func fn first cap) w := fun _ _ _ _ => rfl
  have kc := PaW0_conv w
  have hmin : min (l.length : Int) 65536 = (l.length : Int) := by omega
  have hsl := slice_to a l.length c hcap ha
  have HR : Hid (parseF l = (zeroO, 400)) := by
    have h1 : atP l < 0 := by
      rcases Int.lt_or_le (atP l) 0 with h | h
      · exact h
      · have := atP_room (b := l) (k := (atP l).toNat) (by omega)
        omega
    unfold Hid
    rw [parseF_none h1, if_neg (by omega)]
  have h65i : ¬ (65536 : Int) < (l.length : Int) := by omega
  have HW := Lib.hid (PaW.start w)
  go_enter_defers Tryz.func19, Tryz.ntmps19
  go_wp2_with fail
  clear kc
  generalize PaW0 w = W at *
  refine (Tryz.bytes_Index_longer a _ l.length c 4 4 W (by decide) h4 (by decide)).mono ?_
  rintro e w1 ⟨rfl, rfl⟩
  obtain ⟨c0, c1, c2, c3, c4, c5, c6, c7, c8, f, d0, fd⟩ := HW.out.cells
  go_wp2
  exact door_zero HW.out rfl rfl HR.out

/-- front.Parse. -/
theorem parse_any (l : List UInt8) (bv : Value) (w : World) (hb : RowC w bv (bcells l)) (hl : l.length ≤ 1073741824) (hL : Lib0 w) :
    Calls Tryz.prog 19 #[bv] w (PaR (parseF l) w) := by
  rcases hb.row with ⟨a, c, rfl, he⟩ | ⟨b, o, c, h0, rfl, hlt, hc⟩
  · have hn : l = [] := by have := congrArg List.length he; rw [bcells_len] at this; exact List.eq_nil_of_length_eq_zero this
    subst hn
    exact parse_short [] a c w (Nat.zero_le _) (fun _ => rfl) (by decide) hL
  · have hcap := hb.cap _ _ _ rfl
    rw [bcells_len] at hcap
    rw [bcells_len] at *
    rcases Nat.lt_or_ge l.length 4 with h4 | h4
    · exact parse_short l _ c w hcap (fun h => by cases h) h4 hL
    · exact parse_long l b o c w hc hcap hl h4 hL
end Go.Proofs.YtnlooggibopknaaGreatDoor
