/- The walks of the reference's until, ends, decimal, small. -/
import Derived.Test.YtnlooggibopknaaGreatDoorPf
namespace Go.Proofs.YtnlooggibopknaaGreatDoor
open Go.RowKit Go.Sort

theorem occ_ext (s x : ByteArray) (k : Nat) : s.extract k (k + x.size) = x ↔ Lib.occAt (bl s) (bl x) k = true := by
  unfold Lib.occAt
  rw [List.isPrefixOf_iff_prefix, List.prefix_iff_eq_take, bl_len]
  constructor
  · intro h
    have h1 : bl (s.extract k (k + x.size)) = bl x := by rw [h]
    rw [show bl (s.extract k (k + x.size)) = _ from Lib.extract_data s k (k + x.size), show k + x.size - k = x.size by omega] at h1
    exact h1.symm
  · intro h
    apply bl_inj
    rw [show bl (s.extract k (k + x.size)) = _ from Lib.extract_data s k (k + x.size), show k + x.size - k = x.size by omega]
    exact h.symm
noncomputable def untilE (s x : ByteArray) : Ending := match cutO s x with
  | some p => .returned (.tuple #[.string p.1, .string p.2, .bool true])
  | none => .returned (.tuple #[.string ⟨#[]⟩, .string ⟨#[]⟩, .bool false])
theorem until_found {s x : ByteArray} {k : Nat} (hk : k + x.size ≤ s.size) (h : s.extract k (k + x.size) = x) (hno : ∀ j, j < k → Lib.occAt (bl s) (bl x) j = false) :
    untilE s x = .returned (.tuple #[.string (s.extract 0 k), .string (s.extract (k + x.size) s.size), .bool true]) := by
  have hi := Lib.index_first (s := bl s) (sub := bl x) (by rw [bl_len]; omega) ((occ_ext s x k).1 h) hno
  have e : cutO s x = some (s.extract 0 k, s.extract (k + x.size) s.size) := by
    unfold cutO Lib.cut
    rw [show Lib.index s.data.toList x.data.toList = (k : Int) from hi, if_pos (show (0 : Int) ≤ (k : Int) by omega)]
    simp only [if_true, Int.toNat_natCast]
    congr 2
    · apply bl_inj
      rw [bl_mk, show bl (s.extract 0 k) = _ from Lib.extract_data s 0 k]
      simp
    · apply bl_inj
      rw [bl_mk, show bl (s.extract (k + x.size) s.size) = _ from Lib.extract_data s _ _]
      have e1 : x.data.toList.length = x.size := bl_len x
      rw [e1, List.take_of_length_le]
      rw [List.length_drop, show s.data.toList.length = s.size from bl_len s]
      omega
  unfold untilE
  rw [e]
theorem until_not {s x : ByteArray} (hx : 0 < x.size) (hno : ∀ j, j + x.size ≤ s.size → Lib.occAt (bl s) (bl x) j = false) : untilE s x = .returned (.tuple #[.string ⟨#[]⟩, .string ⟨#[]⟩, .bool false]) := by
  have hi : Lib.index (bl s) (bl x) = -1 := Lib.index_none fun j _ => by
    by_cases h : j + x.size ≤ s.size
    · exact hno j h
    · cases ho : Lib.occAt (bl s) (bl x) j with
      | false => rfl
      | true =>
        rcases Lib.occAt_room ho with h1 | h1
        · rw [bl_len, bl_len] at h1; omega
        · have := bl_len x
          rw [h1] at this
          simp only [List.length_nil] at this
          omega
  have e : cutO s x = none := by
    unfold cutO Lib.cut
    rw [show Lib.index s.data.toList x.data.toList = -1 from hi, if_neg (show ¬ (0 : Int) ≤ -1 by decide)]
    rfl
  unfold untilE
  rw [e]

theorem occ_step {f : Nat → Bool} {k : Nat} (h : ∀ j, j < k → f j = false) (h1 : f k = false) {j : Nat} (hj : j < k + 1) : f j = false := by
  rcases Nat.lt_or_ge j k with h2 | h2
  · exact h j h2
  · obtain rfl : j = k := by omega
    exact h1

set_option maxHeartbeats 2000000 in
set_option maxRecDepth 100000 in
theorem until_any (s x : ByteArray) (w : World) (hs : s.size ≤ 1073741824) (hx0 : 0 < x.size) (hx : x.size ≤ 1000) :
    Calls Tryz.prog 85 #[.string s, .string x] w fun e w' => e = untilE s x ∧ Below w.heap.size w w' := by
  go_enter Tryz.func85, Tryz.ntmps85
  go_wp2_with fail
  go_loop [7] (fun i => ∃ k : Nat, k ≤ s.size + 1 ∧ (∀ j, j < k → Lib.occAt (bl s) (bl x) j = false) ∧ i = .int .i64 k) (fun i => s.size + 1 - (intOf i).toNat)
  case atStart => exact ⟨0, Nat.zero_le _, fun j h => by omega, rfl⟩
  case round =>
    obtain ⟨k, hk, hno, rfl⟩ := hrel
    have HN := Lib.hid hno
    clear hno
    by_cases hlt : k + x.size ≤ s.size
    · have hli : (k : Int) + (x.size : Int) ≤ (s.size : Int) := by omega
      by_cases he : s.extract k (k + x.size) = x
      · have he1 := str_same he
        have HF := Lib.hid (until_found hlt he HN.out)
        go_wp2_with fail
        go_quiet (fail)
        go_wp2_with fail
        go_ret3
        exact ⟨HF.out.symm, below_drewN (Below.refl _ _) _⟩
      · have he1 := str_other he
        have HO : Hid (Lib.occAt (bl s) (bl x) k = false) := by
          cases ho : Lib.occAt (bl s) (bl x) k with
          | false => rfl
          | true => exact absurd ((occ_ext s x k).2 ho) he
        clear he
        go_wp2_with fail
        go_round
        case rel => exact ⟨k + 1, by omega, fun j hj => occ_step HN.out HO.out hj, by go_num⟩
        case measure => simp [intOf]; omega
    · have hli : ¬ (k : Int) + (x.size : Int) ≤ (s.size : Int) := by omega
      have HF : Hid (untilE s x = .returned (.tuple #[.string ⟨#[]⟩, .string ⟨#[]⟩, .bool false])) := until_not hx0 fun j hj => HN.out j (by omega)
      go_wp2
      go_ret3
      exact ⟨HF.out.symm, Below.refl _ _⟩
end Go.Proofs.YtnlooggibopknaaGreatDoor
