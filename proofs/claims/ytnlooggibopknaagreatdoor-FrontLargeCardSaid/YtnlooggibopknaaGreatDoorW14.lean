/- The walk of bucket.Check, kind by kind. Printed by mkcheck.py. -/
import Derived.Test.YtnlooggibopknaaGreatDoorW11
namespace Go.Proofs.YtnlooggibopknaaGreatDoor
open Go.RowKit

/-- What Check hands back. -/
def ChkR (o : O) (w : World) (e : Ending) (w' : World) : Prop := e = .returned (.int .i64 (if chkB o then 0 else 1)) ∧ Below w.heap.size w w'
theorem chk_yes {o : O} (h : chkB o = true) {w w' : World} (hb : Below w.heap.size w w') : ChkR o w (.returned (.int .i64 0)) w' := ⟨by rw [h]; rfl, hb⟩
theorem chk_no {o : O} (h : chkB o = false) {w w' : World} (hb : Below w.heap.size w w') : ChkR o w (.returned (.int .i64 1)) w' := ⟨by rw [h]; rfl, hb⟩
theorem op_cells {w w1 : World} {cs : Array Value} {t : TypeId} (hb : Below (w.alloc (.cells cs t)).heap.size (w.alloc (.cells cs t)) w1) (j : Nat) (u : Value) (h : cs[j]? = some u) : w1.cell? ⟨w.heap.size, j, none⟩ = some u := by
  have h1 := (bcell hb).1 w.heap.size j (by rw [World.size_alloc]; omega)
  rw [h1, cell_of_row _ _ j cs t _ (heap_alloc_new w _)]
  exact h
theorem size_zero {s : ByteArray} (h : s.size = 0) : s = ⟨#[]⟩ := by
  obtain ⟨a⟩ := s
  have : a.size = 0 := h
  rw [Array.size_eq_zero_iff] at this
  rw [this]
theorem tl_nil {s : ByteArray} : s.toList = [] ↔ s.size = 0 := by
  rw [ByteArray.toList_eq]
  exact ⟨fun e => by have := congrArg List.length e; simpa using this, fun e => by rw [size_zero e]⟩
theorem longN (n lo hi : Int) : longB n lo hi = (decide (lo ≤ n) && decide (n ≤ hi)) := rfl

set_option maxHeartbeats 2000000 in
set_option maxRecDepth 100000 in
theorem check_1 (o : O) (pv dv : Value) (w : World) (hk : o.kind = 1) (hp : RowIn w pv (icells o.ps)) (hd : RowIn w dv (bcells o.da)) (hs : o.bu.size ≤ 1073741824) :
    Calls Tryz.prog 32 #[opV o pv dv] w (ChkR o w) := by
  have HP := Lib.hid hp
  have HK := Lib.hid hk
  have hs1 : o.bu.size ≤ maxLen := by unfold maxLen; omega
  have hpl : (icells o.ps).length = o.ps.length := by simp [icells]
  have hdl : (bcells o.da).length = o.da.length := by simp [bcells]
  obtain ⟨pa, pc, rfl⟩ := hp.form
  obtain ⟨da, dc, rfl⟩ := hd.form
  rw [hpl] at HP
  rw [hpl, hdl]
  clear hp hd hpl hdl hs
  have hf := fields_any o.kind
  have e1 : hasV o.kind = .agg #[.bool true, .bool false, .bool false, .bool false, .bool false, .bool false, .bool false] := by rw [hk]; rfl
  have e2 : kindB o.kind = true := by rw [hk]; rfl
  rw [e1, e2] at hf
  clear hk
  have HF := Lib.hid hf
  clear hf e1 e2
  go_enter Tryz.func32, Tryz.ntmps32
  go_wp2_with fail
  refine (HF.out _).mono ?_
  rintro e w1 ⟨rfl, hb⟩
  have c2 := op_cells hb 2 _ rfl
  have c3 := op_cells hb 3 _ rfl
  have c4 := op_cells hb 4 _ rfl
  have c5 := op_cells hb 5 _ rfl
  have c6 := op_cells hb 6 _ rfl
  have c7 := op_cells hb 7 _ rfl
  have c8 := op_cells hb 8 _ rfl
  have hsz : w.heap.size < w1.heap.size := by have := hb.size; rw [World.size_alloc] at this; omega
  have HP1 := Lib.hid (HP.out.below (((Below.refl w.heap.size w).alloc (Nat.le_refl _) _).trans (hb.mono (by rw [World.size_alloc]; omega))))
  have HB : Hid (∀ x, Below w.heap.size w (w1.alloc x)) := fun x => ((((Below.refl w.heap.size w).alloc (Nat.le_refl _) _).trans (hb.mono (by rw [World.size_alloc]; omega)))).alloc (by omega) x
  clear hb HF
  go_wp2_with (first
    | (go_at_call 67; refine (named_any _ _ (by assumption)).mono ?_; rintro e w' ⟨rfl, rfl⟩)
    | (go_at_call 68; refine (long_any _ _ _ _).mono ?_; rintro e w' ⟨rfl, rfl⟩)
    | (go_at_call 69; refine (rising_any o.ps _ _ (HP1.out.below ((Below.refl _ _).alloc (Nat.le_refl _) _))).mono ?_; rintro e w' ⟨rfl, rfl⟩))
  all_goals go_ret
  all_goals have hk := HK.out
  all_goals clear c2 c3 c4 c5 c6 c7 c8 HP HK HP1
  all_goals (try simp only [tl_nil, List.length_pos_iff, Classical.not_not] at *)
  all_goals first
    | (refine chk_yes ?_ (HB.out _); simp [chkB, *]; done)
    | (refine chk_no ?_ (HB.out _); simp [chkB, *]; done)
    | (refine chk_yes ?_ (HB.out _); simp [chkB, hk, longN o.n 1 1000, longN o.n 1 10000, *]; omega)
    | (refine chk_no ?_ (HB.out _); simp [chkB, hk, longN o.n 1 1000, longN o.n 1 10000, *]; omega)

set_option maxHeartbeats 2000000 in
set_option maxRecDepth 100000 in
theorem check_2 (o : O) (pv dv : Value) (w : World) (hk : o.kind = 2) (hp : RowIn w pv (icells o.ps)) (hd : RowIn w dv (bcells o.da)) (hs : o.bu.size ≤ 1073741824) :
    Calls Tryz.prog 32 #[opV o pv dv] w (ChkR o w) := by
  have HP := Lib.hid hp
  have HK := Lib.hid hk
  have hs1 : o.bu.size ≤ maxLen := by unfold maxLen; omega
  have hpl : (icells o.ps).length = o.ps.length := by simp [icells]
  have hdl : (bcells o.da).length = o.da.length := by simp [bcells]
  obtain ⟨pa, pc, rfl⟩ := hp.form
  obtain ⟨da, dc, rfl⟩ := hd.form
  rw [hpl] at HP
  rw [hpl, hdl]
  clear hp hd hpl hdl hs
  have hf := fields_any o.kind
  have e1 : hasV o.kind = .agg #[.bool true, .bool false, .bool false, .bool false, .bool false, .bool false, .bool false] := by rw [hk]; rfl
  have e2 : kindB o.kind = true := by rw [hk]; rfl
  rw [e1, e2] at hf
  clear hk
  have HF := Lib.hid hf
  clear hf e1 e2
  go_enter Tryz.func32, Tryz.ntmps32
  go_wp2_with fail
  refine (HF.out _).mono ?_
  rintro e w1 ⟨rfl, hb⟩
  have c2 := op_cells hb 2 _ rfl
  have c3 := op_cells hb 3 _ rfl
  have c4 := op_cells hb 4 _ rfl
  have c5 := op_cells hb 5 _ rfl
  have c6 := op_cells hb 6 _ rfl
  have c7 := op_cells hb 7 _ rfl
  have c8 := op_cells hb 8 _ rfl
  have hsz : w.heap.size < w1.heap.size := by have := hb.size; rw [World.size_alloc] at this; omega
  have HP1 := Lib.hid (HP.out.below (((Below.refl w.heap.size w).alloc (Nat.le_refl _) _).trans (hb.mono (by rw [World.size_alloc]; omega))))
  have HB : Hid (∀ x, Below w.heap.size w (w1.alloc x)) := fun x => ((((Below.refl w.heap.size w).alloc (Nat.le_refl _) _).trans (hb.mono (by rw [World.size_alloc]; omega)))).alloc (by omega) x
  clear hb HF
  go_wp2_with (first
    | (go_at_call 67; refine (named_any _ _ (by assumption)).mono ?_; rintro e w' ⟨rfl, rfl⟩)
    | (go_at_call 68; refine (long_any _ _ _ _).mono ?_; rintro e w' ⟨rfl, rfl⟩)
    | (go_at_call 69; refine (rising_any o.ps _ _ (HP1.out.below ((Below.refl _ _).alloc (Nat.le_refl _) _))).mono ?_; rintro e w' ⟨rfl, rfl⟩))
  all_goals go_ret
  all_goals have hk := HK.out
  all_goals clear c2 c3 c4 c5 c6 c7 c8 HP HK HP1
  all_goals (try simp only [tl_nil, List.length_pos_iff, Classical.not_not] at *)
  all_goals first
    | (refine chk_yes ?_ (HB.out _); simp [chkB, *]; done)
    | (refine chk_no ?_ (HB.out _); simp [chkB, *]; done)
    | (refine chk_yes ?_ (HB.out _); simp [chkB, hk, longN o.n 1 1000, longN o.n 1 10000, *]; omega)
    | (refine chk_no ?_ (HB.out _); simp [chkB, hk, longN o.n 1 1000, longN o.n 1 10000, *]; omega)

set_option maxHeartbeats 2000000 in
set_option maxRecDepth 100000 in
theorem check_3 (o : O) (pv dv : Value) (w : World) (hk : o.kind = 3) (hp : RowIn w pv (icells o.ps)) (hd : RowIn w dv (bcells o.da)) (hs : o.bu.size ≤ 1073741824) :
    Calls Tryz.prog 32 #[opV o pv dv] w (ChkR o w) := by
  have HP := Lib.hid hp
  have HK := Lib.hid hk
  have hs1 : o.bu.size ≤ maxLen := by unfold maxLen; omega
  have hpl : (icells o.ps).length = o.ps.length := by simp [icells]
  have hdl : (bcells o.da).length = o.da.length := by simp [bcells]
  obtain ⟨pa, pc, rfl⟩ := hp.form
  obtain ⟨da, dc, rfl⟩ := hd.form
  rw [hpl] at HP
  rw [hpl, hdl]
  clear hp hd hpl hdl hs
  have hf := fields_any o.kind
  have e1 : hasV o.kind = .agg #[.bool true, .bool true, .bool false, .bool false, .bool false, .bool false, .bool true] := by rw [hk]; rfl
  have e2 : kindB o.kind = true := by rw [hk]; rfl
  rw [e1, e2] at hf
  clear hk
  have HF := Lib.hid hf
  clear hf e1 e2
  go_enter Tryz.func32, Tryz.ntmps32
  go_wp2_with fail
  refine (HF.out _).mono ?_
  rintro e w1 ⟨rfl, hb⟩
  have c2 := op_cells hb 2 _ rfl
  have c3 := op_cells hb 3 _ rfl
  have c4 := op_cells hb 4 _ rfl
  have c5 := op_cells hb 5 _ rfl
  have c6 := op_cells hb 6 _ rfl
  have c7 := op_cells hb 7 _ rfl
  have c8 := op_cells hb 8 _ rfl
  have hsz : w.heap.size < w1.heap.size := by have := hb.size; rw [World.size_alloc] at this; omega
  have HP1 := Lib.hid (HP.out.below (((Below.refl w.heap.size w).alloc (Nat.le_refl _) _).trans (hb.mono (by rw [World.size_alloc]; omega))))
  have HB : Hid (∀ x, Below w.heap.size w (w1.alloc x)) := fun x => ((((Below.refl w.heap.size w).alloc (Nat.le_refl _) _).trans (hb.mono (by rw [World.size_alloc]; omega)))).alloc (by omega) x
  clear hb HF
  go_wp2_with (first
    | (go_at_call 67; refine (named_any _ _ (by assumption)).mono ?_; rintro e w' ⟨rfl, rfl⟩)
    | (go_at_call 68; refine (long_any _ _ _ _).mono ?_; rintro e w' ⟨rfl, rfl⟩)
    | (go_at_call 69; refine (rising_any o.ps _ _ (HP1.out.below ((Below.refl _ _).alloc (Nat.le_refl _) _))).mono ?_; rintro e w' ⟨rfl, rfl⟩))
  all_goals go_ret
  all_goals have hk := HK.out
  all_goals clear c2 c3 c4 c5 c6 c7 c8 HP HK HP1
  all_goals (try simp only [tl_nil] at *)
  all_goals first
    | (refine chk_yes ?_ (HB.out _); simp [chkB, *]; done)
    | (refine chk_no ?_ (HB.out _); simp [chkB, *]; done)
    | (refine chk_yes ?_ (HB.out _); simp [chkB, *]; omega)
    | (refine chk_no ?_ (HB.out _); simp [chkB, *]; omega)

set_option maxHeartbeats 2000000 in
set_option maxRecDepth 100000 in
theorem check_4 (o : O) (pv dv : Value) (w : World) (hk : o.kind = 4) (hp : RowIn w pv (icells o.ps)) (hd : RowIn w dv (bcells o.da)) (hs : o.bu.size ≤ 1073741824) :
    Calls Tryz.prog 32 #[opV o pv dv] w (ChkR o w) := by
  have HP := Lib.hid hp
  have HK := Lib.hid hk
  have hs1 : o.bu.size ≤ maxLen := by unfold maxLen; omega
  have hpl : (icells o.ps).length = o.ps.length := by simp [icells]
  have hdl : (bcells o.da).length = o.da.length := by simp [bcells]
  obtain ⟨pa, pc, rfl⟩ := hp.form
  obtain ⟨da, dc, rfl⟩ := hd.form
  rw [hpl] at HP
  rw [hpl, hdl]
  clear hp hd hpl hdl hs
  have hf := fields_any o.kind
  have e1 : hasV o.kind = .agg #[.bool true, .bool true, .bool false, .bool false, .bool false, .bool false, .bool false] := by rw [hk]; rfl
  have e2 : kindB o.kind = true := by rw [hk]; rfl
  rw [e1, e2] at hf
  clear hk
  have HF := Lib.hid hf
  clear hf e1 e2
  go_enter Tryz.func32, Tryz.ntmps32
  go_wp2_with fail
  refine (HF.out _).mono ?_
  rintro e w1 ⟨rfl, hb⟩
  have c2 := op_cells hb 2 _ rfl
  have c3 := op_cells hb 3 _ rfl
  have c4 := op_cells hb 4 _ rfl
  have c5 := op_cells hb 5 _ rfl
  have c6 := op_cells hb 6 _ rfl
  have c7 := op_cells hb 7 _ rfl
  have c8 := op_cells hb 8 _ rfl
  have hsz : w.heap.size < w1.heap.size := by have := hb.size; rw [World.size_alloc] at this; omega
  have HP1 := Lib.hid (HP.out.below (((Below.refl w.heap.size w).alloc (Nat.le_refl _) _).trans (hb.mono (by rw [World.size_alloc]; omega))))
  have HB : Hid (∀ x, Below w.heap.size w (w1.alloc x)) := fun x => ((((Below.refl w.heap.size w).alloc (Nat.le_refl _) _).trans (hb.mono (by rw [World.size_alloc]; omega)))).alloc (by omega) x
  clear hb HF
  go_wp2_with (first
    | (go_at_call 67; refine (named_any _ _ (by assumption)).mono ?_; rintro e w' ⟨rfl, rfl⟩)
    | (go_at_call 68; refine (long_any _ _ _ _).mono ?_; rintro e w' ⟨rfl, rfl⟩)
    | (go_at_call 69; refine (rising_any o.ps _ _ (HP1.out.below ((Below.refl _ _).alloc (Nat.le_refl _) _))).mono ?_; rintro e w' ⟨rfl, rfl⟩))
  all_goals go_ret
  all_goals have hk := HK.out
  all_goals clear c2 c3 c4 c5 c6 c7 c8 HP HK HP1
  all_goals (try simp only [tl_nil, List.length_pos_iff, Classical.not_not] at *)
  all_goals first
    | (refine chk_yes ?_ (HB.out _); simp [chkB, *]; done)
    | (refine chk_no ?_ (HB.out _); simp [chkB, *]; done)
    | (refine chk_yes ?_ (HB.out _); simp [chkB, hk, longN o.n 1 1000, longN o.n 1 10000, *]; omega)
    | (refine chk_no ?_ (HB.out _); simp [chkB, hk, longN o.n 1 1000, longN o.n 1 10000, *]; omega)

set_option maxHeartbeats 2000000 in
set_option maxRecDepth 100000 in
theorem check_5 (o : O) (pv dv : Value) (w : World) (hk : o.kind = 5) (hp : RowIn w pv (icells o.ps)) (hd : RowIn w dv (bcells o.da)) (hs : o.bu.size ≤ 1073741824) :
    Calls Tryz.prog 32 #[opV o pv dv] w (ChkR o w) := by
  have HP := Lib.hid hp
  have HK := Lib.hid hk
  have hs1 : o.bu.size ≤ maxLen := by unfold maxLen; omega
  have hpl : (icells o.ps).length = o.ps.length := by simp [icells]
  have hdl : (bcells o.da).length = o.da.length := by simp [bcells]
  obtain ⟨pa, pc, rfl⟩ := hp.form
  obtain ⟨da, dc, rfl⟩ := hd.form
  rw [hpl] at HP
  rw [hpl, hdl]
  clear hp hd hpl hdl hs
  have hf := fields_any o.kind
  have e1 : hasV o.kind = .agg #[.bool true, .bool true, .bool false, .bool false, .bool false, .bool false, .bool false] := by rw [hk]; rfl
  have e2 : kindB o.kind = true := by rw [hk]; rfl
  rw [e1, e2] at hf
  clear hk
  have HF := Lib.hid hf
  clear hf e1 e2
  go_enter Tryz.func32, Tryz.ntmps32
  go_wp2_with fail
  refine (HF.out _).mono ?_
  rintro e w1 ⟨rfl, hb⟩
  have c2 := op_cells hb 2 _ rfl
  have c3 := op_cells hb 3 _ rfl
  have c4 := op_cells hb 4 _ rfl
  have c5 := op_cells hb 5 _ rfl
  have c6 := op_cells hb 6 _ rfl
  have c7 := op_cells hb 7 _ rfl
  have c8 := op_cells hb 8 _ rfl
  have hsz : w.heap.size < w1.heap.size := by have := hb.size; rw [World.size_alloc] at this; omega
  have HP1 := Lib.hid (HP.out.below (((Below.refl w.heap.size w).alloc (Nat.le_refl _) _).trans (hb.mono (by rw [World.size_alloc]; omega))))
  have HB : Hid (∀ x, Below w.heap.size w (w1.alloc x)) := fun x => ((((Below.refl w.heap.size w).alloc (Nat.le_refl _) _).trans (hb.mono (by rw [World.size_alloc]; omega)))).alloc (by omega) x
  clear hb HF
  go_wp2_with (first
    | (go_at_call 67; refine (named_any _ _ (by assumption)).mono ?_; rintro e w' ⟨rfl, rfl⟩)
    | (go_at_call 68; refine (long_any _ _ _ _).mono ?_; rintro e w' ⟨rfl, rfl⟩)
    | (go_at_call 69; refine (rising_any o.ps _ _ (HP1.out.below ((Below.refl _ _).alloc (Nat.le_refl _) _))).mono ?_; rintro e w' ⟨rfl, rfl⟩))
  all_goals go_ret
  all_goals have hk := HK.out
  all_goals clear c2 c3 c4 c5 c6 c7 c8 HP HK HP1
  all_goals (try simp only [tl_nil, List.length_pos_iff, Classical.not_not] at *)
  all_goals first
    | (refine chk_yes ?_ (HB.out _); simp [chkB, *]; done)
    | (refine chk_no ?_ (HB.out _); simp [chkB, *]; done)
    | (refine chk_yes ?_ (HB.out _); simp [chkB, hk, longN o.n 1 1000, longN o.n 1 10000, *]; omega)
    | (refine chk_no ?_ (HB.out _); simp [chkB, hk, longN o.n 1 1000, longN o.n 1 10000, *]; omega)

set_option maxHeartbeats 2000000 in
set_option maxRecDepth 100000 in
theorem check_6 (o : O) (pv dv : Value) (w : World) (hk : o.kind = 6) (hp : RowIn w pv (icells o.ps)) (hd : RowIn w dv (bcells o.da)) (hs : o.bu.size ≤ 1073741824) :
    Calls Tryz.prog 32 #[opV o pv dv] w (ChkR o w) := by
  have HP := Lib.hid hp
  have HK := Lib.hid hk
  have hs1 : o.bu.size ≤ maxLen := by unfold maxLen; omega
  have hpl : (icells o.ps).length = o.ps.length := by simp [icells]
  have hdl : (bcells o.da).length = o.da.length := by simp [bcells]
  obtain ⟨pa, pc, rfl⟩ := hp.form
  obtain ⟨da, dc, rfl⟩ := hd.form
  rw [hpl] at HP
  rw [hpl, hdl]
  clear hp hd hpl hdl hs
  have hf := fields_any o.kind
  have e1 : hasV o.kind = .agg #[.bool true, .bool false, .bool true, .bool false, .bool false, .bool false, .bool false] := by rw [hk]; rfl
  have e2 : kindB o.kind = true := by rw [hk]; rfl
  rw [e1, e2] at hf
  clear hk
  have HF := Lib.hid hf
  clear hf e1 e2
  go_enter Tryz.func32, Tryz.ntmps32
  go_wp2_with fail
  refine (HF.out _).mono ?_
  rintro e w1 ⟨rfl, hb⟩
  have c2 := op_cells hb 2 _ rfl
  have c3 := op_cells hb 3 _ rfl
  have c4 := op_cells hb 4 _ rfl
  have c5 := op_cells hb 5 _ rfl
  have c6 := op_cells hb 6 _ rfl
  have c7 := op_cells hb 7 _ rfl
  have c8 := op_cells hb 8 _ rfl
  have hsz : w.heap.size < w1.heap.size := by have := hb.size; rw [World.size_alloc] at this; omega
  have HP1 := Lib.hid (HP.out.below (((Below.refl w.heap.size w).alloc (Nat.le_refl _) _).trans (hb.mono (by rw [World.size_alloc]; omega))))
  have HB : Hid (∀ x, Below w.heap.size w (w1.alloc x)) := fun x => ((((Below.refl w.heap.size w).alloc (Nat.le_refl _) _).trans (hb.mono (by rw [World.size_alloc]; omega)))).alloc (by omega) x
  clear hb HF
  go_wp2_with (first
    | (go_at_call 67; refine (named_any _ _ (by assumption)).mono ?_; rintro e w' ⟨rfl, rfl⟩)
    | (go_at_call 68; refine (long_any _ _ _ _).mono ?_; rintro e w' ⟨rfl, rfl⟩)
    | (go_at_call 69; refine (rising_any o.ps _ _ (HP1.out.below ((Below.refl _ _).alloc (Nat.le_refl _) _))).mono ?_; rintro e w' ⟨rfl, rfl⟩))
  all_goals go_ret
  all_goals have hk := HK.out
  all_goals clear c2 c3 c4 c5 c6 c7 c8 HP HK HP1
  all_goals (try simp only [List.length_pos_iff, Classical.not_not] at *)
  all_goals first
    | (refine chk_yes ?_ (HB.out _); simp [chkB, longN o.n 1 1000, *]; done)
    | (refine chk_no ?_ (HB.out _); simp [chkB, longN o.n 1 1000, *]; done)
    | (refine chk_yes ?_ (HB.out _); simp [chkB, hk, longN o.n 1 1000, longN o.n 1 10000, *]; omega)
    | (refine chk_no ?_ (HB.out _); simp [chkB, longN o.n 1 1000, *]; omega)

set_option maxHeartbeats 2000000 in
set_option maxRecDepth 100000 in
theorem check_7 (o : O) (pv dv : Value) (w : World) (hk : o.kind = 7) (hp : RowIn w pv (icells o.ps)) (hd : RowIn w dv (bcells o.da)) (hs : o.bu.size ≤ 1073741824) :
    Calls Tryz.prog 32 #[opV o pv dv] w (ChkR o w) := by
  have HP := Lib.hid hp
  have HK := Lib.hid hk
  have hs1 : o.bu.size ≤ maxLen := by unfold maxLen; omega
  have hpl : (icells o.ps).length = o.ps.length := by simp [icells]
  have hdl : (bcells o.da).length = o.da.length := by simp [bcells]
  obtain ⟨pa, pc, rfl⟩ := hp.form
  obtain ⟨da, dc, rfl⟩ := hd.form
  rw [hpl] at HP
  rw [hpl, hdl]
  clear hp hd hpl hdl hs
  have hf := fields_any o.kind
  have e1 : hasV o.kind = .agg #[.bool true, .bool true, .bool false, .bool false, .bool false, .bool false, .bool false] := by rw [hk]; rfl
  have e2 : kindB o.kind = true := by rw [hk]; rfl
  rw [e1, e2] at hf
  clear hk
  have HF := Lib.hid hf
  clear hf e1 e2
  go_enter Tryz.func32, Tryz.ntmps32
  go_wp2_with fail
  refine (HF.out _).mono ?_
  rintro e w1 ⟨rfl, hb⟩
  have c2 := op_cells hb 2 _ rfl
  have c3 := op_cells hb 3 _ rfl
  have c4 := op_cells hb 4 _ rfl
  have c5 := op_cells hb 5 _ rfl
  have c6 := op_cells hb 6 _ rfl
  have c7 := op_cells hb 7 _ rfl
  have c8 := op_cells hb 8 _ rfl
  have hsz : w.heap.size < w1.heap.size := by have := hb.size; rw [World.size_alloc] at this; omega
  have HP1 := Lib.hid (HP.out.below (((Below.refl w.heap.size w).alloc (Nat.le_refl _) _).trans (hb.mono (by rw [World.size_alloc]; omega))))
  have HB : Hid (∀ x, Below w.heap.size w (w1.alloc x)) := fun x => ((((Below.refl w.heap.size w).alloc (Nat.le_refl _) _).trans (hb.mono (by rw [World.size_alloc]; omega)))).alloc (by omega) x
  clear hb HF
  go_wp2_with (first
    | (go_at_call 67; refine (named_any _ _ (by assumption)).mono ?_; rintro e w' ⟨rfl, rfl⟩)
    | (go_at_call 68; refine (long_any _ _ _ _).mono ?_; rintro e w' ⟨rfl, rfl⟩)
    | (go_at_call 69; refine (rising_any o.ps _ _ (HP1.out.below ((Below.refl _ _).alloc (Nat.le_refl _) _))).mono ?_; rintro e w' ⟨rfl, rfl⟩))
  all_goals go_ret
  all_goals have hk := HK.out
  all_goals clear c2 c3 c4 c5 c6 c7 c8 HP HK HP1
  all_goals (try simp only [tl_nil, List.length_pos_iff, Classical.not_not] at *)
  all_goals first
    | (refine chk_yes ?_ (HB.out _); simp [chkB, *]; done)
    | (refine chk_no ?_ (HB.out _); simp [chkB, *]; done)
    | (refine chk_yes ?_ (HB.out _); simp [chkB, hk, longN o.n 1 1000, longN o.n 1 10000, *]; omega)
    | (refine chk_no ?_ (HB.out _); simp [chkB, hk, longN o.n 1 1000, longN o.n 1 10000, *]; omega)

set_option maxHeartbeats 2000000 in
set_option maxRecDepth 100000 in
theorem check_8 (o : O) (pv dv : Value) (w : World) (hk : o.kind = 8) (hp : RowIn w pv (icells o.ps)) (hd : RowIn w dv (bcells o.da)) (hs : o.bu.size ≤ 1073741824) :
    Calls Tryz.prog 32 #[opV o pv dv] w (ChkR o w) := by
  have HP := Lib.hid hp
  have HK := Lib.hid hk
  have hs1 : o.bu.size ≤ maxLen := by unfold maxLen; omega
  have hpl : (icells o.ps).length = o.ps.length := by simp [icells]
  have hdl : (bcells o.da).length = o.da.length := by simp [bcells]
  obtain ⟨pa, pc, rfl⟩ := hp.form
  obtain ⟨da, dc, rfl⟩ := hd.form
  rw [hpl] at HP
  rw [hpl, hdl]
  clear hp hd hpl hdl hs
  have hf := fields_any o.kind
  have e1 : hasV o.kind = .agg #[.bool false, .bool false, .bool false, .bool true, .bool true, .bool false, .bool true] := by rw [hk]; rfl
  have e2 : kindB o.kind = true := by rw [hk]; rfl
  rw [e1, e2] at hf
  clear hk
  have HF := Lib.hid hf
  clear hf e1 e2
  go_enter Tryz.func32, Tryz.ntmps32
  go_wp2_with fail
  refine (HF.out _).mono ?_
  rintro e w1 ⟨rfl, hb⟩
  have c2 := op_cells hb 2 _ rfl
  have c3 := op_cells hb 3 _ rfl
  have c4 := op_cells hb 4 _ rfl
  have c5 := op_cells hb 5 _ rfl
  have c6 := op_cells hb 6 _ rfl
  have c7 := op_cells hb 7 _ rfl
  have c8 := op_cells hb 8 _ rfl
  have hsz : w.heap.size < w1.heap.size := by have := hb.size; rw [World.size_alloc] at this; omega
  have HP1 := Lib.hid (HP.out.below (((Below.refl w.heap.size w).alloc (Nat.le_refl _) _).trans (hb.mono (by rw [World.size_alloc]; omega))))
  have HB : Hid (∀ x, Below w.heap.size w (w1.alloc x)) := fun x => ((((Below.refl w.heap.size w).alloc (Nat.le_refl _) _).trans (hb.mono (by rw [World.size_alloc]; omega)))).alloc (by omega) x
  clear hb HF
  go_wp2_with (first
    | (go_at_call 67; refine (named_any _ _ (by assumption)).mono ?_; rintro e w' ⟨rfl, rfl⟩)
    | (go_at_call 68; refine (long_any _ _ _ _).mono ?_; rintro e w' ⟨rfl, rfl⟩)
    | (go_at_call 69; refine (rising_any o.ps _ _ (HP1.out.below ((Below.refl _ _).alloc (Nat.le_refl _) _))).mono ?_; rintro e w' ⟨rfl, rfl⟩))
  all_goals go_ret
  all_goals have hk := HK.out
  all_goals clear c2 c3 c4 c5 c6 c7 c8 HP HK HP1
  all_goals (try simp only [tl_nil] at *)
  all_goals first
    | (refine chk_yes ?_ (HB.out _); simp [chkB, longN o.n 1 10000, *]; done)
    | (refine chk_no ?_ (HB.out _); simp [chkB, longN o.n 1 10000, *]; done)
    | (refine chk_yes ?_ (HB.out _); simp [chkB, longN o.n 1 10000, *]; omega)
    | (refine chk_no ?_ (HB.out _); simp [chkB, longN o.n 1 10000, *]; omega)

set_option maxHeartbeats 2000000 in
set_option maxRecDepth 100000 in
theorem check_9 (o : O) (pv dv : Value) (w : World) (hk : o.kind = 9) (hp : RowIn w pv (icells o.ps)) (hd : RowIn w dv (bcells o.da)) (hs : o.bu.size ≤ 1073741824) :
    Calls Tryz.prog 32 #[opV o pv dv] w (ChkR o w) := by
  have HP := Lib.hid hp
  have HK := Lib.hid hk
  have hs1 : o.bu.size ≤ maxLen := by unfold maxLen; omega
  have hpl : (icells o.ps).length = o.ps.length := by simp [icells]
  have hdl : (bcells o.da).length = o.da.length := by simp [bcells]
  obtain ⟨pa, pc, rfl⟩ := hp.form
  obtain ⟨da, dc, rfl⟩ := hd.form
  rw [hpl] at HP
  rw [hpl, hdl]
  clear hp hd hpl hdl hs
  have hf := fields_any o.kind
  have e1 : hasV o.kind = .agg #[.bool false, .bool false, .bool false, .bool true, .bool false, .bool true, .bool false] := by rw [hk]; rfl
  have e2 : kindB o.kind = true := by rw [hk]; rfl
  rw [e1, e2] at hf
  clear hk
  have HF := Lib.hid hf
  clear hf e1 e2
  go_enter Tryz.func32, Tryz.ntmps32
  go_wp2_with fail
  refine (HF.out _).mono ?_
  rintro e w1 ⟨rfl, hb⟩
  have c2 := op_cells hb 2 _ rfl
  have c3 := op_cells hb 3 _ rfl
  have c4 := op_cells hb 4 _ rfl
  have c5 := op_cells hb 5 _ rfl
  have c6 := op_cells hb 6 _ rfl
  have c7 := op_cells hb 7 _ rfl
  have c8 := op_cells hb 8 _ rfl
  have hsz : w.heap.size < w1.heap.size := by have := hb.size; rw [World.size_alloc] at this; omega
  have HP1 := Lib.hid (HP.out.below (((Below.refl w.heap.size w).alloc (Nat.le_refl _) _).trans (hb.mono (by rw [World.size_alloc]; omega))))
  have HB : Hid (∀ x, Below w.heap.size w (w1.alloc x)) := fun x => ((((Below.refl w.heap.size w).alloc (Nat.le_refl _) _).trans (hb.mono (by rw [World.size_alloc]; omega)))).alloc (by omega) x
  clear hb HF
  go_wp2_with (first
    | (go_at_call 67; refine (named_any _ _ (by assumption)).mono ?_; rintro e w' ⟨rfl, rfl⟩)
    | (go_at_call 68; refine (long_any _ _ _ _).mono ?_; rintro e w' ⟨rfl, rfl⟩)
    | (go_at_call 69; refine (rising_any o.ps _ _ (HP1.out.below ((Below.refl _ _).alloc (Nat.le_refl _) _))).mono ?_; rintro e w' ⟨rfl, rfl⟩))
  all_goals go_ret
  all_goals have hk := HK.out
  all_goals clear c2 c3 c4 c5 c6 c7 c8 HP HK HP1
  all_goals (try simp only [tl_nil, List.length_pos_iff, Classical.not_not] at *)
  all_goals first
    | (refine chk_yes ?_ (HB.out _); simp [chkB, *]; done)
    | (refine chk_no ?_ (HB.out _); simp [chkB, *]; done)
    | (refine chk_yes ?_ (HB.out _); simp [chkB, hk, longN o.n 1 1000, longN o.n 1 10000, *]; omega)
    | (refine chk_no ?_ (HB.out _); simp [chkB, hk, longN o.n 1 1000, longN o.n 1 10000, *]; omega)

set_option maxHeartbeats 2000000 in
set_option maxRecDepth 100000 in
theorem check_10 (o : O) (pv dv : Value) (w : World) (hk : o.kind = 10) (hp : RowIn w pv (icells o.ps)) (hd : RowIn w dv (bcells o.da)) (hs : o.bu.size ≤ 1073741824) :
    Calls Tryz.prog 32 #[opV o pv dv] w (ChkR o w) := by
  have HP := Lib.hid hp
  have HK := Lib.hid hk
  have hs1 : o.bu.size ≤ maxLen := by unfold maxLen; omega
  have hpl : (icells o.ps).length = o.ps.length := by simp [icells]
  have hdl : (bcells o.da).length = o.da.length := by simp [bcells]
  obtain ⟨pa, pc, rfl⟩ := hp.form
  obtain ⟨da, dc, rfl⟩ := hd.form
  rw [hpl] at HP
  rw [hpl, hdl]
  clear hp hd hpl hdl hs
  have hf := fields_any o.kind
  have e1 : hasV o.kind = .agg #[.bool false, .bool false, .bool false, .bool true, .bool false, .bool false, .bool false] := by rw [hk]; rfl
  have e2 : kindB o.kind = true := by rw [hk]; rfl
  rw [e1, e2] at hf
  clear hk
  have HF := Lib.hid hf
  clear hf e1 e2
  go_enter Tryz.func32, Tryz.ntmps32
  go_wp2_with fail
  refine (HF.out _).mono ?_
  rintro e w1 ⟨rfl, hb⟩
  have c2 := op_cells hb 2 _ rfl
  have c3 := op_cells hb 3 _ rfl
  have c4 := op_cells hb 4 _ rfl
  have c5 := op_cells hb 5 _ rfl
  have c6 := op_cells hb 6 _ rfl
  have c7 := op_cells hb 7 _ rfl
  have c8 := op_cells hb 8 _ rfl
  have hsz : w.heap.size < w1.heap.size := by have := hb.size; rw [World.size_alloc] at this; omega
  have HP1 := Lib.hid (HP.out.below (((Below.refl w.heap.size w).alloc (Nat.le_refl _) _).trans (hb.mono (by rw [World.size_alloc]; omega))))
  have HB : Hid (∀ x, Below w.heap.size w (w1.alloc x)) := fun x => ((((Below.refl w.heap.size w).alloc (Nat.le_refl _) _).trans (hb.mono (by rw [World.size_alloc]; omega)))).alloc (by omega) x
  clear hb HF
  go_wp2_with (first
    | (go_at_call 67; refine (named_any _ _ (by assumption)).mono ?_; rintro e w' ⟨rfl, rfl⟩)
    | (go_at_call 68; refine (long_any _ _ _ _).mono ?_; rintro e w' ⟨rfl, rfl⟩)
    | (go_at_call 69; refine (rising_any o.ps _ _ (HP1.out.below ((Below.refl _ _).alloc (Nat.le_refl _) _))).mono ?_; rintro e w' ⟨rfl, rfl⟩))
  all_goals go_ret
  all_goals have hk := HK.out
  all_goals clear c2 c3 c4 c5 c6 c7 c8 HP HK HP1
  all_goals (try simp only [tl_nil, List.length_pos_iff, Classical.not_not] at *)
  all_goals first
    | (refine chk_yes ?_ (HB.out _); simp [chkB, *]; done)
    | (refine chk_no ?_ (HB.out _); simp [chkB, *]; done)
    | (refine chk_yes ?_ (HB.out _); simp [chkB, hk, longN o.n 1 1000, longN o.n 1 10000, *]; omega)
    | (refine chk_no ?_ (HB.out _); simp [chkB, hk, longN o.n 1 1000, longN o.n 1 10000, *]; omega)

end Go.Proofs.YtnlooggibopknaaGreatDoor

