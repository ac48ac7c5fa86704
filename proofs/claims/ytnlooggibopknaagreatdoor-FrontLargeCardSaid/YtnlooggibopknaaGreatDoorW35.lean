/- The walk of the reference's Check, kind by kind. Printed by mkcheck2.py. -/
import Derived.Test.YtnlooggibopknaaGreatDoorW15
import Derived.Test.YtnlooggibopknaaGreatDoorW11
namespace Go.Proofs.YtnlooggibopknaaGreatDoor
open Go.RowKit

set_option maxHeartbeats 4000000 in
set_option maxRecDepth 1000000 in
theorem rcheck_1 (o : O) (pv dv : Value) (w : World) (hk : o.kind = 1) (hp : RowIn w pv (icells o.ps)) (hd : RowIn w dv (bcells o.da)) (hs : o.bu.size ≤ 1073741824) :
    Calls Tryz.prog 22 #[opV o pv dv] w (ChkR o w) := by
  have HP := Lib.hid hp
  have HK := Lib.hid hk
  have q1 : (o.kind == 1) = true := by rw [hk]; rfl
  have q2 : (o.kind == 2) = false := by rw [hk]; rfl
  have q3 : (o.kind == 3) = false := by rw [hk]; rfl
  have q4 : (o.kind == 4) = false := by rw [hk]; rfl
  have q5 : (o.kind == 5) = false := by rw [hk]; rfl
  have q6 : (o.kind == 6) = false := by rw [hk]; rfl
  have q7 : (o.kind == 7) = false := by rw [hk]; rfl
  have q8 : (o.kind == 8) = false := by rw [hk]; rfl
  have q9 : (o.kind == 9) = false := by rw [hk]; rfl
  have q10 : (o.kind == 10) = false := by rw [hk]; rfl
  have hs1 : o.bu.size ≤ maxLen := by unfold maxLen; omega
  have hpl : (icells o.ps).length = o.ps.length := by simp [icells]
  have hdl : (bcells o.da).length = o.da.length := by simp [bcells]
  obtain ⟨pa, pc, rfl⟩ := hp.form
  obtain ⟨da, dc, rfl⟩ := hd.form
  rw [hpl] at HP
  rw [hpl, hdl]
  have HB : Hid (∀ x, Below w.heap.size w (w.alloc x)) := fun x => (Below.refl _ _).alloc (Nat.le_refl _) x
  clear hp hd hpl hdl hs hk
  go_enter Tryz.func22, Tryz.ntmps22
  go_wp2_with (first
    | (go_at_call 54; refine (name_any _ _ (by assumption)).mono ?_; rintro e w' ⟨rfl, rfl⟩)
    | (go_at_call 55; refine (key_any _ _).mono ?_; rintro e w' ⟨rfl, rfl⟩)
    | (go_at_call 56; refine (parts_any o.ps _ _ (HP.out.below (HB.out _))).mono ?_; rintro e w1 ⟨rfl, hb1⟩))
  all_goals go_ret
  all_goals have hk := HK.out
  all_goals clear HP HK q1 q2 q3 q4 q5 q6 q7 q8 q9 q10
  all_goals (try simp only [tl_nil, List.length_pos_iff, Classical.not_not] at *)
  all_goals first
    | (refine chk_yes ?_ (HB.out _); simp [chkB, *]; done)
    | (refine chk_no ?_ (HB.out _); simp [chkB, *]; done)
    | (refine chk_yes ?_ (HB.out _); simp [chkB, hk, longN o.n 1 1000, longN o.n 1 10000, *]; omega)
    | (refine chk_no ?_ (HB.out _); simp [chkB, hk, longN o.n 1 1000, longN o.n 1 10000, *]; omega)
    | (refine chk_yes ?_ (HB.out _); simp [chkB, hk, longB, *]; done)
    | (refine chk_no ?_ (HB.out _); simp [chkB, hk, longB, *]; done)
    | (refine chk_yes ?_ (HB.out _); simp [chkB, hk, longB, *]; omega)
    | (refine chk_no ?_ (HB.out _); simp [chkB, hk, longB, *]; omega)

set_option maxHeartbeats 4000000 in
set_option maxRecDepth 1000000 in
theorem rcheck_2 (o : O) (pv dv : Value) (w : World) (hk : o.kind = 2) (hp : RowIn w pv (icells o.ps)) (hd : RowIn w dv (bcells o.da)) (hs : o.bu.size ≤ 1073741824) :
    Calls Tryz.prog 22 #[opV o pv dv] w (ChkR o w) := by
  have HP := Lib.hid hp
  have HK := Lib.hid hk
  have q1 : (o.kind == 1) = false := by rw [hk]; rfl
  have q2 : (o.kind == 2) = true := by rw [hk]; rfl
  have q3 : (o.kind == 3) = false := by rw [hk]; rfl
  have q4 : (o.kind == 4) = false := by rw [hk]; rfl
  have q5 : (o.kind == 5) = false := by rw [hk]; rfl
  have q6 : (o.kind == 6) = false := by rw [hk]; rfl
  have q7 : (o.kind == 7) = false := by rw [hk]; rfl
  have q8 : (o.kind == 8) = false := by rw [hk]; rfl
  have q9 : (o.kind == 9) = false := by rw [hk]; rfl
  have q10 : (o.kind == 10) = false := by rw [hk]; rfl
  have hs1 : o.bu.size ≤ maxLen := by unfold maxLen; omega
  have hpl : (icells o.ps).length = o.ps.length := by simp [icells]
  have hdl : (bcells o.da).length = o.da.length := by simp [bcells]
  obtain ⟨pa, pc, rfl⟩ := hp.form
  obtain ⟨da, dc, rfl⟩ := hd.form
  rw [hpl] at HP
  rw [hpl, hdl]
  have HB : Hid (∀ x, Below w.heap.size w (w.alloc x)) := fun x => (Below.refl _ _).alloc (Nat.le_refl _) x
  clear hp hd hpl hdl hs hk
  go_enter Tryz.func22, Tryz.ntmps22
  go_wp2_with (first
    | (go_at_call 54; refine (name_any _ _ (by assumption)).mono ?_; rintro e w' ⟨rfl, rfl⟩)
    | (go_at_call 55; refine (key_any _ _).mono ?_; rintro e w' ⟨rfl, rfl⟩)
    | (go_at_call 56; refine (parts_any o.ps _ _ (HP.out.below (HB.out _))).mono ?_; rintro e w1 ⟨rfl, hb1⟩))
  all_goals go_ret
  all_goals have hk := HK.out
  all_goals clear HP HK q1 q2 q3 q4 q5 q6 q7 q8 q9 q10
  all_goals (try simp only [tl_nil, List.length_pos_iff, Classical.not_not] at *)
  all_goals first
    | (refine chk_yes ?_ (HB.out _); simp [chkB, *]; done)
    | (refine chk_no ?_ (HB.out _); simp [chkB, *]; done)
    | (refine chk_yes ?_ (HB.out _); simp [chkB, hk, longN o.n 1 1000, longN o.n 1 10000, *]; omega)
    | (refine chk_no ?_ (HB.out _); simp [chkB, hk, longN o.n 1 1000, longN o.n 1 10000, *]; omega)
    | (refine chk_yes ?_ (HB.out _); simp [chkB, hk, longB, *]; done)
    | (refine chk_no ?_ (HB.out _); simp [chkB, hk, longB, *]; done)
    | (refine chk_yes ?_ (HB.out _); simp [chkB, hk, longB, *]; omega)
    | (refine chk_no ?_ (HB.out _); simp [chkB, hk, longB, *]; omega)

set_option maxHeartbeats 4000000 in
set_option maxRecDepth 1000000 in
theorem rcheck_3 (o : O) (pv dv : Value) (w : World) (hk : o.kind = 3) (hp : RowIn w pv (icells o.ps)) (hd : RowIn w dv (bcells o.da)) (hs : o.bu.size ≤ 1073741824) :
    Calls Tryz.prog 22 #[opV o pv dv] w (ChkR o w) := by
  have HP := Lib.hid hp
  have HK := Lib.hid hk
  have q1 : (o.kind == 1) = false := by rw [hk]; rfl
  have q2 : (o.kind == 2) = false := by rw [hk]; rfl
  have q3 : (o.kind == 3) = true := by rw [hk]; rfl
  have q4 : (o.kind == 4) = false := by rw [hk]; rfl
  have q5 : (o.kind == 5) = false := by rw [hk]; rfl
  have q6 : (o.kind == 6) = false := by rw [hk]; rfl
  have q7 : (o.kind == 7) = false := by rw [hk]; rfl
  have q8 : (o.kind == 8) = false := by rw [hk]; rfl
  have q9 : (o.kind == 9) = false := by rw [hk]; rfl
  have q10 : (o.kind == 10) = false := by rw [hk]; rfl
  have hs1 : o.bu.size ≤ maxLen := by unfold maxLen; omega
  have hpl : (icells o.ps).length = o.ps.length := by simp [icells]
  have hdl : (bcells o.da).length = o.da.length := by simp [bcells]
  obtain ⟨pa, pc, rfl⟩ := hp.form
  obtain ⟨da, dc, rfl⟩ := hd.form
  rw [hpl] at HP
  rw [hpl, hdl]
  have HB : Hid (∀ x, Below w.heap.size w (w.alloc x)) := fun x => (Below.refl _ _).alloc (Nat.le_refl _) x
  clear hp hd hpl hdl hs hk
  go_enter Tryz.func22, Tryz.ntmps22
  go_wp2_with (first
    | (go_at_call 54; refine (name_any _ _ (by assumption)).mono ?_; rintro e w' ⟨rfl, rfl⟩)
    | (go_at_call 55; refine (key_any _ _).mono ?_; rintro e w' ⟨rfl, rfl⟩)
    | (go_at_call 56; refine (parts_any o.ps _ _ (HP.out.below (HB.out _))).mono ?_; rintro e w1 ⟨rfl, hb1⟩))
  all_goals go_ret
  all_goals have hk := HK.out
  all_goals clear HP HK q1 q2 q3 q4 q5 q6 q7 q8 q9 q10
  all_goals (try simp only [tl_nil, List.length_pos_iff, Bool.not_eq_false', Bool.not_eq_true', decide_eq_true_eq, decide_eq_false_iff_not] at *)
  all_goals first
    | (refine chk_yes ?_ (HB.out _); simp [chkB, *]; done)
    | (refine chk_no ?_ (HB.out _); simp [chkB, *]; done)
    | (refine chk_yes ?_ (HB.out _); simp [chkB, *]; omega)
    | (refine chk_no ?_ (HB.out _); simp [chkB, *]; omega)
    | (refine chk_yes ?_ (HB.out _); simp [chkB, hk, longB, *]; done)
    | (refine chk_no ?_ (HB.out _); simp [chkB, hk, longB, *]; done)
    | (refine chk_yes ?_ (HB.out _); simp [chkB, hk, longB, *]; omega)
    | (refine chk_no ?_ (HB.out _); simp [chkB, hk, longB, *]; omega)

set_option maxHeartbeats 4000000 in
set_option maxRecDepth 1000000 in
theorem rcheck_4 (o : O) (pv dv : Value) (w : World) (hk : o.kind = 4) (hp : RowIn w pv (icells o.ps)) (hd : RowIn w dv (bcells o.da)) (hs : o.bu.size ≤ 1073741824) :
    Calls Tryz.prog 22 #[opV o pv dv] w (ChkR o w) := by
  have HP := Lib.hid hp
  have HK := Lib.hid hk
  have q1 : (o.kind == 1) = false := by rw [hk]; rfl
  have q2 : (o.kind == 2) = false := by rw [hk]; rfl
  have q3 : (o.kind == 3) = false := by rw [hk]; rfl
  have q4 : (o.kind == 4) = true := by rw [hk]; rfl
  have q5 : (o.kind == 5) = false := by rw [hk]; rfl
  have q6 : (o.kind == 6) = false := by rw [hk]; rfl
  have q7 : (o.kind == 7) = false := by rw [hk]; rfl
  have q8 : (o.kind == 8) = false := by rw [hk]; rfl
  have q9 : (o.kind == 9) = false := by rw [hk]; rfl
  have q10 : (o.kind == 10) = false := by rw [hk]; rfl
  have hs1 : o.bu.size ≤ maxLen := by unfold maxLen; omega
  have hpl : (icells o.ps).length = o.ps.length := by simp [icells]
  have hdl : (bcells o.da).length = o.da.length := by simp [bcells]
  obtain ⟨pa, pc, rfl⟩ := hp.form
  obtain ⟨da, dc, rfl⟩ := hd.form
  rw [hpl] at HP
  rw [hpl, hdl]
  have HB : Hid (∀ x, Below w.heap.size w (w.alloc x)) := fun x => (Below.refl _ _).alloc (Nat.le_refl _) x
  clear hp hd hpl hdl hs hk
  go_enter Tryz.func22, Tryz.ntmps22
  go_wp2_with (first
    | (go_at_call 54; refine (name_any _ _ (by assumption)).mono ?_; rintro e w' ⟨rfl, rfl⟩)
    | (go_at_call 55; refine (key_any _ _).mono ?_; rintro e w' ⟨rfl, rfl⟩)
    | (go_at_call 56; refine (parts_any o.ps _ _ (HP.out.below (HB.out _))).mono ?_; rintro e w1 ⟨rfl, hb1⟩))
  all_goals go_ret
  all_goals have hk := HK.out
  all_goals clear HP HK q1 q2 q3 q4 q5 q6 q7 q8 q9 q10
  all_goals (try simp only [tl_nil, List.length_pos_iff, Classical.not_not] at *)
  all_goals first
    | (refine chk_yes ?_ (HB.out _); simp [chkB, *]; done)
    | (refine chk_no ?_ (HB.out _); simp [chkB, *]; done)
    | (refine chk_yes ?_ (HB.out _); simp [chkB, hk, longN o.n 1 1000, longN o.n 1 10000, *]; omega)
    | (refine chk_no ?_ (HB.out _); simp [chkB, hk, longN o.n 1 1000, longN o.n 1 10000, *]; omega)
    | (refine chk_yes ?_ (HB.out _); simp [chkB, hk, longB, *]; done)
    | (refine chk_no ?_ (HB.out _); simp [chkB, hk, longB, *]; done)
    | (refine chk_yes ?_ (HB.out _); simp [chkB, hk, longB, *]; omega)
    | (refine chk_no ?_ (HB.out _); simp [chkB, hk, longB, *]; omega)

set_option maxHeartbeats 4000000 in
set_option maxRecDepth 1000000 in
theorem rcheck_5 (o : O) (pv dv : Value) (w : World) (hk : o.kind = 5) (hp : RowIn w pv (icells o.ps)) (hd : RowIn w dv (bcells o.da)) (hs : o.bu.size ≤ 1073741824) :
    Calls Tryz.prog 22 #[opV o pv dv] w (ChkR o w) := by
  have HP := Lib.hid hp
  have HK := Lib.hid hk
  have q1 : (o.kind == 1) = false := by rw [hk]; rfl
  have q2 : (o.kind == 2) = false := by rw [hk]; rfl
  have q3 : (o.kind == 3) = false := by rw [hk]; rfl
  have q4 : (o.kind == 4) = false := by rw [hk]; rfl
  have q5 : (o.kind == 5) = true := by rw [hk]; rfl
  have q6 : (o.kind == 6) = false := by rw [hk]; rfl
  have q7 : (o.kind == 7) = false := by rw [hk]; rfl
  have q8 : (o.kind == 8) = false := by rw [hk]; rfl
  have q9 : (o.kind == 9) = false := by rw [hk]; rfl
  have q10 : (o.kind == 10) = false := by rw [hk]; rfl
  have hs1 : o.bu.size ≤ maxLen := by unfold maxLen; omega
  have hpl : (icells o.ps).length = o.ps.length := by simp [icells]
  have hdl : (bcells o.da).length = o.da.length := by simp [bcells]
  obtain ⟨pa, pc, rfl⟩ := hp.form
  obtain ⟨da, dc, rfl⟩ := hd.form
  rw [hpl] at HP
  rw [hpl, hdl]
  have HB : Hid (∀ x, Below w.heap.size w (w.alloc x)) := fun x => (Below.refl _ _).alloc (Nat.le_refl _) x
  clear hp hd hpl hdl hs hk
  go_enter Tryz.func22, Tryz.ntmps22
  go_wp2_with (first
    | (go_at_call 54; refine (name_any _ _ (by assumption)).mono ?_; rintro e w' ⟨rfl, rfl⟩)
    | (go_at_call 55; refine (key_any _ _).mono ?_; rintro e w' ⟨rfl, rfl⟩)
    | (go_at_call 56; refine (parts_any o.ps _ _ (HP.out.below (HB.out _))).mono ?_; rintro e w1 ⟨rfl, hb1⟩))
  all_goals go_ret
  all_goals have hk := HK.out
  all_goals clear HP HK q1 q2 q3 q4 q5 q6 q7 q8 q9 q10
  all_goals (try simp only [tl_nil, List.length_pos_iff, Classical.not_not] at *)
  all_goals first
    | (refine chk_yes ?_ (HB.out _); simp [chkB, *]; done)
    | (refine chk_no ?_ (HB.out _); simp [chkB, *]; done)
    | (refine chk_yes ?_ (HB.out _); simp [chkB, hk, longN o.n 1 1000, longN o.n 1 10000, *]; omega)
    | (refine chk_no ?_ (HB.out _); simp [chkB, hk, longN o.n 1 1000, longN o.n 1 10000, *]; omega)
    | (refine chk_yes ?_ (HB.out _); simp [chkB, hk, longB, *]; done)
    | (refine chk_no ?_ (HB.out _); simp [chkB, hk, longB, *]; done)
    | (refine chk_yes ?_ (HB.out _); simp [chkB, hk, longB, *]; omega)
    | (refine chk_no ?_ (HB.out _); simp [chkB, hk, longB, *]; omega)

set_option maxHeartbeats 4000000 in
set_option maxRecDepth 1000000 in
theorem rcheck_7 (o : O) (pv dv : Value) (w : World) (hk : o.kind = 7) (hp : RowIn w pv (icells o.ps)) (hd : RowIn w dv (bcells o.da)) (hs : o.bu.size ≤ 1073741824) :
    Calls Tryz.prog 22 #[opV o pv dv] w (ChkR o w) := by
  have HP := Lib.hid hp
  have HK := Lib.hid hk
  have q1 : (o.kind == 1) = false := by rw [hk]; rfl
  have q2 : (o.kind == 2) = false := by rw [hk]; rfl
  have q3 : (o.kind == 3) = false := by rw [hk]; rfl
  have q4 : (o.kind == 4) = false := by rw [hk]; rfl
  have q5 : (o.kind == 5) = false := by rw [hk]; rfl
  have q6 : (o.kind == 6) = false := by rw [hk]; rfl
  have q7 : (o.kind == 7) = true := by rw [hk]; rfl
  have q8 : (o.kind == 8) = false := by rw [hk]; rfl
  have q9 : (o.kind == 9) = false := by rw [hk]; rfl
  have q10 : (o.kind == 10) = false := by rw [hk]; rfl
  have hs1 : o.bu.size ≤ maxLen := by unfold maxLen; omega
  have hpl : (icells o.ps).length = o.ps.length := by simp [icells]
  have hdl : (bcells o.da).length = o.da.length := by simp [bcells]
  obtain ⟨pa, pc, rfl⟩ := hp.form
  obtain ⟨da, dc, rfl⟩ := hd.form
  rw [hpl] at HP
  rw [hpl, hdl]
  have HB : Hid (∀ x, Below w.heap.size w (w.alloc x)) := fun x => (Below.refl _ _).alloc (Nat.le_refl _) x
  clear hp hd hpl hdl hs hk
  go_enter Tryz.func22, Tryz.ntmps22
  go_wp2_with (first
    | (go_at_call 54; refine (name_any _ _ (by assumption)).mono ?_; rintro e w' ⟨rfl, rfl⟩)
    | (go_at_call 55; refine (key_any _ _).mono ?_; rintro e w' ⟨rfl, rfl⟩)
    | (go_at_call 56; refine (parts_any o.ps _ _ (HP.out.below (HB.out _))).mono ?_; rintro e w1 ⟨rfl, hb1⟩))
  all_goals go_ret
  all_goals have hk := HK.out
  all_goals clear HP HK q1 q2 q3 q4 q5 q6 q7 q8 q9 q10
  all_goals (try simp only [tl_nil, List.length_pos_iff, Classical.not_not] at *)
  all_goals first
    | (refine chk_yes ?_ (HB.out _); simp [chkB, *]; done)
    | (refine chk_no ?_ (HB.out _); simp [chkB, *]; done)
    | (refine chk_yes ?_ (HB.out _); simp [chkB, hk, longN o.n 1 1000, longN o.n 1 10000, *]; omega)
    | (refine chk_no ?_ (HB.out _); simp [chkB, hk, longN o.n 1 1000, longN o.n 1 10000, *]; omega)
    | (refine chk_yes ?_ (HB.out _); simp [chkB, hk, longB, *]; done)
    | (refine chk_no ?_ (HB.out _); simp [chkB, hk, longB, *]; done)
    | (refine chk_yes ?_ (HB.out _); simp [chkB, hk, longB, *]; omega)
    | (refine chk_no ?_ (HB.out _); simp [chkB, hk, longB, *]; omega)
end Go.Proofs.YtnlooggibopknaaGreatDoor

