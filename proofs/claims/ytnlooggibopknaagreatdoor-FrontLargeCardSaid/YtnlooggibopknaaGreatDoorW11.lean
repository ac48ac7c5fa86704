/- The walks of rising, parts, fields, Name. -/
import Derived.Test.YtnlooggibopknaaGreatDoorMem
import Derived.BigQuiet
import Derived.Handy
namespace Go.Proofs.YtnlooggibopknaaGreatDoor
open Go.RowKit

set_option maxHeartbeats 400000 in
theorem rising_any (l : List Int) (v : Value) (w : World) (hv : RowIn w v (icells l)) :
    Calls Tryz.prog 69 #[v] w fun e w' => e = .returned (.bool (risesB l)) ∧ w = w' := by
  have hl : (icells l).length = l.length := by simp [icells]
  rcases hv with ⟨a, c, rfl, h0⟩ | ⟨b, o, c, h0, rfl, hbw, hc⟩
  · have : l = [] := by simpa [icells] using h0
    subst this
    go_enter Tryz.func69, Tryz.ntmps69
    go_wp2
    all_goals go_ret
    all_goals exact ⟨rfl, rfl⟩
  · rw [hl]
    rw [hl] at h0
    clear hl
    have HC : Hid (∀ k (h : k < l.length), w.cell? ⟨b, o + k, none⟩ = some (.int .i64 (atI l k))) := fun k h => hc k _ (by simp [icells, atI, List.getD, h])
    clear hc
    have hlt1 : ¬ (l.length : Int) < 1 := by omega
    by_cases hbig : 10000 < l.length
    · have hi : 10000 < (l.length : Int) := by omega
      go_enter Tryz.func69, Tryz.ntmps69
      go_wp2
      go_ret
      refine ⟨ret_bool ?_, rfl⟩
      unfold risesB
      simp [show ¬ l.length ≤ 10000 by omega]
    · have hi : (l.length : Int) ≤ 10000 := by omega
      go_enter Tryz.func69, Tryz.ntmps69
      go_wp2
      go_loop [15] (fun i => ∃ k : Nat, k ≤ l.length ∧ (List.range k).all (part1 l) = true ∧ i = .int .i64 k) (fun i => l.length - (intOf i).toNat)
      case atStart => exact ⟨0, Nat.zero_le _, by simp, rfl⟩
      case round =>
        obtain ⟨k, hk, ha, rfl⟩ := hrel
        have HA := Lib.hid ha
        clear ha
        by_cases hlt : k < l.length
        · have hck := HC.out k hlt
          have HS := Lib.hid (rises_snoc l k)
          have HN := Lib.hid (rises_no l k hlt)
          by_cases hk0 : k = 0
          · subst hk0
            simp only [Nat.add_zero] at hck
            go_wp2
            all_goals first
              | (go_round
                 case rel => exact ⟨0 + 1, by omega, by rw [HS.out, HA.out]; simp [part1]; omega, by go_num⟩
                 case measure => simp [intOf]; omega)
              | (go_ret
                 exact ⟨ret_bool (by rw [HN.out (by simp [part1]; omega)]), rfl⟩)
          · have hck1 := HC.out (k - 1) (by omega)
            have hki : 0 < (k : Int) := by omega
            go_wp2
            all_goals first
              | (go_round
                 case rel => exact ⟨k + 1, by omega, by rw [HS.out, HA.out]; simp [part1]; omega, by go_num⟩
                 case measure => simp [intOf]; omega)
              | (go_ret
                 exact ⟨ret_bool (by rw [HN.out (by simp [part1]; omega)]), rfl⟩)
        · obtain rfl : k = l.length := by omega
          go_wp2
          go_ret
          exact ⟨ret_bool (by unfold risesB; rw [HA.out]; simp; omega), rfl⟩
end Go.Proofs.YtnlooggibopknaaGreatDoor

/- The walk of parts. -/
namespace Go.Proofs.YtnlooggibopknaaGreatDoor
open Go.RowKit

set_option maxHeartbeats 6000000 in
set_option maxRecDepth 100000 in
theorem parts_any (l : List Int) (v : Value) (w : World) (hv : RowIn w v (icells l)) :
    Calls Tryz.prog 56 #[v] w fun e w' => e = .returned (.bool (risesB l)) ∧ Below w.heap.size w w' := by
  have hl : (icells l).length = l.length := by simp [icells]
  rcases hv with ⟨a, c, rfl, h0⟩ | ⟨b, o, c, h0, rfl, hbw, hc⟩
  · have : l = [] := by simpa [icells] using h0
    subst this
    go_enter Tryz.func56, Tryz.ntmps56
    go_wp2
    all_goals go_ret
    all_goals exact ⟨rfl, Below.refl _ _⟩
  · rw [hl]
    rw [hl] at h0
    clear hl
    have HC : Hid (∀ k (h : k < l.length), ∀ n, (w.drewN n).cell? ⟨b, o + k, none⟩ = some (.int .i64 (atI l k))) := fun k h n => hc k _ (by simp [icells, atI, List.getD, h])
    clear hc
    have hlt1 : ¬ (l.length : Int) < 1 := by omega
    by_cases hbig : 10000 < l.length
    · have hi : 10000 < (l.length : Int) := by omega
      go_enter Tryz.func56, Tryz.ntmps56
      go_wp2
      go_ret
      refine ⟨ret_bool ?_, Below.refl _ _⟩
      unfold risesB
      simp [show ¬ l.length ≤ 10000 by omega]
    · have hi : (l.length : Int) ≤ 10000 := by omega
      go_enter Tryz.func56, Tryz.ntmps56
      go_wp2
      go_loopw [3] (fun i wr => ∃ k : Nat, k ≤ l.length ∧ (List.range k).all (part1 l) = true ∧ i = .int .i64 k ∧ ∃ n, wr = w.drewN n) (fun i _ => l.length - (intOf i).toNat)
      case atStart => exact ⟨0, Nat.zero_le _, by simp, rfl, 0, rfl⟩
      case round =>
        obtain ⟨k, hk, ha, rfl, dn, rfl⟩ := hrel
        have HA := Lib.hid ha
        clear ha
        have HB : Hid (∀ n, Below w.heap.size w (w.drewN n)) := fun n => below_drewN (Below.refl _ _) n
        by_cases hlt : k < l.length
        · have hck := HC.out k hlt
          have HS := Lib.hid (rises_snoc l k)
          have HN := Lib.hid (rises_no l k hlt)
          have hck1 := HC.out (k - 1) (by omega)
          by_cases a1 : atI l k < 1
          · have hd1 : decide (atI l k < 1) = true := decide_eq_true a1
            go_wp2_with fail
            go_quiet (fail)
            have HB2 : Hid (∀ n : Nat, Below w.heap.size w ((w.drewN dn).drewN nq)) := fun _ => by rw [World.drewN_drewN]; exact HB.out _
            go_wp2_with fail
            go_ret
            exact ⟨ret_bool (by rw [HN.out (by simp [part1]; omega)]), HB2.out (dn + nq)⟩
          have hd1 : decide (atI l k < 1) = false := decide_eq_false a1
          by_cases a2 : 10000 < atI l k
          · have hd2 : decide (10000 < atI l k) = true := decide_eq_true a2
            go_wp2_with fail
            go_quiet (fail)
            have HB2 : Hid (∀ n : Nat, Below w.heap.size w ((w.drewN dn).drewN nq)) := fun _ => by rw [World.drewN_drewN]; exact HB.out _
            go_wp2_with fail
            go_ret
            exact ⟨ret_bool (by rw [HN.out (by simp [part1]; omega)]), HB2.out (dn + nq)⟩
          have hd2 : decide (10000 < atI l k) = false := decide_eq_false a2
          by_cases hk0 : k = 0
          · have HK := Lib.hid hk0
            have hd3 : decide (0 < (k : Int)) = false := decide_eq_false (by omega)
            have hd5 : decide (0 < k) = false := decide_eq_false (by omega)
            clear hk0 hck1
            go_wp2_with fail
            go_quiet (fail)
            have HB2 : Hid (∀ n : Nat, Below w.heap.size w ((w.drewN dn).drewN nq)) := fun _ => by rw [World.drewN_drewN]; exact HB.out _
            go_wp2_with fail
            go_roundw
            case rel => exact ⟨k + 1, by omega, by rw [HS.out, HA.out]; have := HK.out; simp [part1]; omega, by go_num, dn + nq, rfl⟩
            case measure => simp [intOf]; omega
          have hki : 0 < (k : Int) := by omega
          have hd3 : decide (0 < (k : Int)) = true := decide_eq_true hki
          have hd5 : decide (0 < k) = true := decide_eq_true (by omega)
          by_cases a3 : atI l k ≤ atI l (k - 1)
          · have hd4 : decide (atI l k ≤ atI l (k - 1)) = true := decide_eq_true a3
            go_wp2_with fail
            go_quiet (fail)
            have HB2 : Hid (∀ n : Nat, Below w.heap.size w ((w.drewN dn).drewN nq)) := fun _ => by rw [World.drewN_drewN]; exact HB.out _
            go_wp2_with fail
            go_ret
            exact ⟨ret_bool (by rw [HN.out (by simp [part1]; omega)]), HB2.out (dn + nq)⟩
          · have hd4 : decide (atI l k ≤ atI l (k - 1)) = false := decide_eq_false a3
            go_wp2_with fail
            go_quiet (fail)
            have HB2 : Hid (∀ n : Nat, Below w.heap.size w ((w.drewN dn).drewN nq)) := fun _ => by rw [World.drewN_drewN]; exact HB.out _
            go_wp2_with fail
            go_roundw
            case rel => exact ⟨k + 1, by omega, by rw [HS.out, HA.out]; simp [part1]; omega, by go_num, dn + nq, rfl⟩
            case measure => simp [intOf]; omega
        · obtain rfl : k = l.length := by omega
          go_wp2
          go_ret
          exact ⟨ret_bool (by unfold risesB; rw [HA.out]; simp; omega), HB.out dn⟩
end Go.Proofs.YtnlooggibopknaaGreatDoor

/- The walks of fields, Name, few. -/
namespace Go.Proofs.YtnlooggibopknaaGreatDoor
open Go.RowKit

def hasV (k : Int) : Value :=
  if k = 1 ∨ k = 2 then .agg #[.bool true, .bool false, .bool false, .bool false, .bool false, .bool false, .bool false]
  else if k = 3 then .agg #[.bool true, .bool true, .bool false, .bool false, .bool false, .bool false, .bool true]
  else if k = 4 ∨ k = 5 ∨ k = 7 then .agg #[.bool true, .bool true, .bool false, .bool false, .bool false, .bool false, .bool false]
  else if k = 6 then .agg #[.bool true, .bool false, .bool true, .bool false, .bool false, .bool false, .bool false]
  else if k = 8 then .agg #[.bool false, .bool false, .bool false, .bool true, .bool true, .bool false, .bool true]
  else if k = 9 then .agg #[.bool false, .bool false, .bool false, .bool true, .bool false, .bool true, .bool false]
  else if k = 10 then .agg #[.bool false, .bool false, .bool false, .bool true, .bool false, .bool false, .bool false]
  else .agg #[.bool false, .bool false, .bool false, .bool false, .bool false, .bool false, .bool false]
def kindB (k : Int) : Bool := decide (1 ≤ k) && decide (k ≤ 10)

set_option maxHeartbeats 1000000 in
theorem fields_any (k : Int) (w : World) : Calls Tryz.prog 66 #[.int .i64 k] w fun e w' => e = .returned (.tuple #[hasV k, .bool (kindB k)]) ∧ Below w.heap.size w w' := by
  go_enter Tryz.func66, Tryz.ntmps66
  go_wp2
  all_goals go_returns
  all_goals refine ⟨?_, (Below.refl _ _).alloc (Nat.le_refl _) _⟩
  all_goals (try simp only [beq_iff_eq, beq_eq_false_iff_ne] at *)
  all_goals first
    | (subst k; rfl)
    | (have e1 : kindB k = false := by simp [kindB]; omega
       have e2 : hasV k = .agg #[.bool false, .bool false, .bool false, .bool false, .bool false, .bool false, .bool false] := by
         unfold hasV
         rw [if_neg (by omega), if_neg (by omega), if_neg (by omega), if_neg (by omega), if_neg (by omega), if_neg (by omega), if_neg (by omega)]
       rw [e1, e2])
theorem name_any (s : ByteArray) (w : World) (hs : s.size ≤ maxLen) :
    Calls Tryz.prog 54 #[.string s] w fun e w' => e = .returned (.bool (nameB s)) ∧ w = w' := by
  unfold maxLen at hs
  by_cases h1 : 1 ≤ s.size ∧ s.size ≤ 64
  · have hi1 : ¬ (s.size : Int) < 1 := by omega
    have hi2 : ¬ (64 : Int) < (s.size : Int) := by omega
    have HL : Hid (longB s.size 1 64 = true) := by unfold Hid longB; simp; omega
    obtain ⟨h1, h2⟩ := h1
    go_enter Tryz.func54, Tryz.ntmps54
    go_wp2
    go_loop [3] (fun i => ∃ k : Nat, k ≤ s.size ∧ (s.data.toList.take k).all (fun c => nameN c.toNat) = true ∧ i = .int .i64 k) (fun i => s.size - (intOf i).toNat)
    case atStart => exact ⟨0, Nat.zero_le _, by simp, rfl⟩
    case round =>
      obtain ⟨k, hk, ha, rfl⟩ := hrel
      have HA := Lib.hid ha
      clear ha
      by_cases hlt : k < s.size
      · have HS := Lib.hid (all_snoc (fun c => nameN c.toNat) s k hlt)
        have HF := Lib.hid (all_false (fun c => nameN c.toNat) s k hlt)
        go_wp2
        all_goals first
          | (go_round
             case rel => exact ⟨k + 1, by omega, by rw [HS.out, HA.out]; (try simp only [beq_iff_eq, Bool.not_eq_false', decide_eq_true_eq] at *); simp [nameN]; omega, by go_num⟩
             case measure => simp [intOf]; omega)
          | (go_ret
             exact ⟨ret_bool (by unfold nameB; rw [HF.out (by (try simp only [beq_eq_false_iff_ne, Bool.not_eq_true', decide_eq_false_iff_not] at *); simp [nameN]; omega), Bool.and_false]), rfl⟩)
      · have HT := Lib.hid (take_all s k (by omega))
        go_wp2
        go_ret
        exact ⟨ret_bool (by unfold nameB; rw [← HT.out, HA.out, Bool.and_true, HL.out]), rfl⟩
  · have HF : Hid (nameB s = false) := by unfold Hid nameB longB; rw [Bool.and_eq_false_iff]; left; simp; omega
    by_cases h2 : s.size < 1
    · have hi1 : (s.size : Int) < 1 := by omega
      go_enter Tryz.func54, Tryz.ntmps54
      go_wp2
      go_ret
      exact ⟨ret_bool HF.out.symm, rfl⟩
    · have hi1 : ¬ (s.size : Int) < 1 := by omega
      have hi2 : (64 : Int) < (s.size : Int) := by omega
      go_enter Tryz.func54, Tryz.ntmps54
      go_wp2
      go_ret
      exact ⟨ret_bool HF.out.symm, rfl⟩
end Go.Proofs.YtnlooggibopknaaGreatDoor
