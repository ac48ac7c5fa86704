/- bucket.Check: at any other kind; at any kind. -/
import Derived.Test.YtnlooggibopknaaGreatDoorW14
namespace Go.Proofs.YtnlooggibopknaaGreatDoor
open Go.RowKit

set_option maxHeartbeats 2000000 in
set_option maxRecDepth 100000 in
theorem check_0 (o : O) (pv dv : Value) (w : World) (hk : ¬ (1 ≤ o.kind ∧ o.kind ≤ 10)) (hp : RowIn w pv (icells o.ps)) (hd : RowIn w dv (bcells o.da)) (hs : o.bu.size ≤ 1073741824) :
    Calls Tryz.prog 32 #[opV o pv dv] w (ChkR o w) := by
  have HP := Lib.hid hp
  have HK := Lib.hid hk
  have hs1 : o.bu.size ≤ maxLen := by unfold maxLen; omega
  have hpl : (icells o.ps).length = o.ps.length := by simp [icells]
  have hdl : (bcells o.da).length = o.da.length := by simp [bcells]
  obtain ⟨pa, pc, rfl⟩ := hp.form
  obtain ⟨da, dc, rfl⟩ := hd.form
  rw [hpl] at HP
  rw [hpl, hdl]
  clear hp hd hpl hdl hs
  have hf := fields_any o.kind
  have e1 : hasV o.kind = .agg #[.bool false, .bool false, .bool false, .bool false, .bool false, .bool false, .bool false] := by (unfold hasV; rw [if_neg (by omega), if_neg (by omega), if_neg (by omega), if_neg (by omega), if_neg (by omega), if_neg (by omega), if_neg (by omega)])
  have e2 : kindB o.kind = false := by (unfold kindB; simp; omega)
  rw [e1, e2] at hf
  clear hk
  have HF := Lib.hid hf
  clear hf e1 e2
  go_enter Tryz.func32, Tryz.ntmps32
  go_wp2_with fail
  refine (HF.out _).mono ?_
  rintro e w1 ⟨rfl, hb⟩
  have c2 := op_cells hb 2 _ rfl
  have c3 := op_cells hb 3 _ rfl
  have c4 := op_cells hb 4 _ rfl
  have c5 := op_cells hb 5 _ rfl
  have c6 := op_cells hb 6 _ rfl
  have c7 := op_cells hb 7 _ rfl
  have c8 := op_cells hb 8 _ rfl
  have hsz : w.heap.size < w1.heap.size := by have := hb.size; rw [World.size_alloc] at this; omega
  have HP1 := Lib.hid (HP.out.below (((Below.refl w.heap.size w).alloc (Nat.le_refl _) _).trans (hb.mono (by rw [World.size_alloc]; omega))))
  have HB : Hid (∀ x, Below w.heap.size w (w1.alloc x)) := fun x => ((((Below.refl w.heap.size w).alloc (Nat.le_refl _) _).trans (hb.mono (by rw [World.size_alloc]; omega)))).alloc (by omega) x
  clear hb HF
  go_wp2_with (first
    | (go_at_call 67; refine (named_any _ _ (by assumption)).mono ?_; rintro e w' ⟨rfl, rfl⟩)
    | (go_at_call 68; refine (long_any _ _ _ _).mono ?_; rintro e w' ⟨rfl, rfl⟩)
    | (go_at_call 69; refine (rising_any o.ps _ _ (HP1.out.below ((Below.refl _ _).alloc (Nat.le_refl _) _))).mono ?_; rintro e w' ⟨rfl, rfl⟩))
  all_goals go_ret
  all_goals have hk := HK.out
  all_goals clear c2 c3 c4 c5 c6 c7 c8 HP HK HP1
  all_goals (try simp only [] at *)
  all_goals first
    | exact chk_no (by unfold chkB; rw [if_neg (by omega), if_neg (by omega), if_neg (by omega), if_neg (by omega), if_neg (by omega), if_neg (by omega), if_neg (by omega)]) (HB.out _)
    | (refine chk_yes ?_ (HB.out _); simp [chkB, hk, longN o.n 1 1000, longN o.n 1 10000, *]; done)
    | (refine chk_no ?_ (HB.out _); simp [chkB, hk, longN o.n 1 1000, longN o.n 1 10000, *]; done)
    | (refine chk_yes ?_ (HB.out _); simp [chkB, hk, longN o.n 1 1000, longN o.n 1 10000, *]; omega)
    | (refine chk_no ?_ (HB.out _); simp [chkB, hk, longN o.n 1 1000, longN o.n 1 10000, *]; omega)

theorem check_any (o : O) (pv dv : Value) (w : World) (hp : RowIn w pv (icells o.ps)) (hd : RowIn w dv (bcells o.da)) (hs : o.bu.size ≤ 1073741824) :
    Calls Tryz.prog 32 #[opV o pv dv] w (ChkR o w) := by
  by_cases h : 1 ≤ o.kind ∧ o.kind ≤ 10
  · have : o.kind = 1 ∨ o.kind = 2 ∨ o.kind = 3 ∨ o.kind = 4 ∨ o.kind = 5 ∨ o.kind = 6 ∨ o.kind = 7 ∨ o.kind = 8 ∨ o.kind = 9 ∨ o.kind = 10 := by omega
    rcases this with h | h | h | h | h | h | h | h | h | h
    · exact check_1 o pv dv w h hp hd hs
    · exact check_2 o pv dv w h hp hd hs
    · exact check_3 o pv dv w h hp hd hs
    · exact check_4 o pv dv w h hp hd hs
    · exact check_5 o pv dv w h hp hd hs
    · exact check_6 o pv dv w h hp hd hs
    · exact check_7 o pv dv w h hp hd hs
    · exact check_8 o pv dv w h hp hd hs
    · exact check_9 o pv dv w h hp hd hs
    · exact check_10 o pv dv w h hp hd hs
  · exact check_0 o pv dv w h hp hd hs
end Go.Proofs.YtnlooggibopknaaGreatDoor

