/- The walks of the reference's small, ends. -/
import Derived.Test.YtnlooggibopknaaGreatDoorRd
namespace Go.Proofs.YtnlooggibopknaaGreatDoor
open Go.RowKit Go.Sort

/-- A text that small takes. -/
def smallB (s : ByteArray) : Bool := takesD s && decide (valD (bl s) ≤ 1099511627776)
def SmaR (s : ByteArray) (e : Ending) : Prop := ∃ m : Int, e = .returned (.tuple #[.int .i64 m, .bool (smallB s)]) ∧ (smallB s = true → m = (valD (bl s) : Int))
theorem sma_of {s : ByteArray} {m : Int} {g : Bool} (h : takesD s = true → g = decide (1099511627776 < valD (bl s)) ∧ (valD (bl s) ≤ 1099511627776 → m = (valD (bl s) : Int))) : SmaR s (.returned (.tuple #[.int .i64 m, .bool (takesD s && !g)])) := by
  refine ⟨m, ?_, fun hs => ?_⟩
  · unfold smallB
    cases ht : takesD s with
    | false => rfl
    | true =>
      rw [(h ht).1]
      have e : (!decide (1099511627776 < valD (bl s))) = decide (valD (bl s) ≤ 1099511627776) := by
        by_cases hv : 1099511627776 < valD (bl s)
        · rw [decide_eq_true hv, decide_eq_false (by omega)]; rfl
        · rw [decide_eq_false hv, decide_eq_true (by omega)]; rfl
      rw [e]
  · unfold smallB at hs
    rw [Bool.and_eq_true, decide_eq_true_eq] at hs
    exact (h hs.1).2 hs.2

set_option maxHeartbeats 1000000 in
set_option maxRecDepth 100000 in
theorem small_any (s : ByteArray) (w : World) (hs : s.size ≤ 1073741824) :
    Calls Tryz.prog 63 #[.string s] w fun e w' => SmaR s e ∧ Below w.heap.size w w' := by
  have HC := Lib.hid (decimalR_any s w hs)
  clear hs
  go_enter Tryz.func63, Tryz.ntmps63
  go_wp2_with fail
  refine HC.out.mono ?_
  rintro e w1 ⟨⟨m, g, rfl, h⟩, hb⟩
  have HS := Lib.hid (sma_of h)
  have HB := Lib.hid hb
  clear h hb
  generalize takesD s = t at *
  cases t with
  | false =>
    go_wp2
    go_ret2
    exact ⟨HS.out, HB.out⟩
  | true =>
    go_wp2
    go_ret2
    exact ⟨HS.out, HB.out⟩

/-- Where a head ends. -/
def endsI (l : List UInt8) : Int := if 0 ≤ Lib.index l CC then Lib.index l CC + 4 else -1
theorem ends_found {l : List UInt8} {k : Nat} (h : Lib.occAt l CC k = true) (hno : ∀ j, j < k → Lib.occAt l CC j = false) : endsI l = (k : Int) + 4 := by
  have hr : k + 4 ≤ l.length := by
    rcases Lib.occAt_room h with h1 | h1
    · exact h1
    · cases h1
  have hi := Lib.index_first (s := l) (sub := CC) (by omega) h hno
  unfold endsI
  rw [hi, if_pos (by omega)]
theorem ends_not {l : List UInt8} (hno : ∀ j, j + 4 ≤ l.length → Lib.occAt l CC j = false) : endsI l = -1 := by
  have hi : Lib.index l CC = -1 := Lib.index_none fun j _ => by
    by_cases h : j + 4 ≤ l.length
    · exact hno j h
    · cases ho : Lib.occAt l CC j with
      | false => rfl
      | true =>
        rcases Lib.occAt_room ho with h1 | h1
        · exact absurd h1 h
        · cases h1
  unfold endsI
  rw [hi, if_neg (by decide)]
theorem occ_cc {l : List UInt8} {k : Nat} (hk : k + 4 ≤ l.length) : Lib.occAt l CC k = ((13 : UInt8) == l[k]'(by omega) && ((10 : UInt8) == l[k + 1]'(by omega) && ((13 : UInt8) == l[k + 2]'(by omega) && ((10 : UInt8) == l[k + 3]'(by omega))))) := by
  unfold Lib.occAt
  rw [List.drop_eq_getElem_cons (show k < l.length by omega), List.drop_eq_getElem_cons (show k + 1 < l.length by omega), List.drop_eq_getElem_cons (show k + 1 + 1 < l.length by omega), List.drop_eq_getElem_cons (show k + 1 + 1 + 1 < l.length by omega)]
  show List.isPrefixOf [13, 10, 13, 10] _ = _
  simp only [List.isPrefixOf_cons_cons, List.isPrefixOf_nil_left, Bool.and_true]
/-- A byte as an int: is it this one? -/
theorem byte_is {c : UInt8} (x : UInt8) : (x == c) = decide ((c.toNat : Int) = (x.toNat : Int)) := by
  by_cases h : x = c
  · subst h; simp
  · rw [beq_eq_false_iff_ne.2 h, decide_eq_false]
    intro e
    exact h (UInt8.toNat_inj.1 (by omega))
theorem occ_int {l : List UInt8} {k : Nat} (hk : k + 4 ≤ l.length) (x0 x1 x2 x3 : Int) (h0 : x0 = ((l[k]'(by omega)).toNat : Int)) (h1 : x1 = ((l[k + 1]'(by omega)).toNat : Int)) (h2 : x2 = ((l[k + 2]'(by omega)).toNat : Int)) (h3 : x3 = ((l[k + 3]'(by omega)).toNat : Int)) :
    Lib.occAt l CC k = (decide (x0 = 13) && (decide (x1 = 10) && (decide (x2 = 13) && decide (x3 = 10)))) := by
  subst h0 h1 h2 h3
  rw [occ_cc hk, byte_is, byte_is, byte_is, byte_is]
  rfl

set_option maxHeartbeats 4000000 in
set_option maxRecDepth 100000 in
theorem ends_any (b o c : Nat) (l : List UInt8) (w : World) (hc : ∀ j u, (bcells l)[j]? = some u → w.cell? ⟨b, o + j, none⟩ = some u) (hl : l.length ≤ 1073741824) :
    Calls Tryz.prog 51 #[.slice (some ⟨b, o, none⟩) l.length c] w fun e w' => e = .returned (.int .i64 (endsI l)) ∧ Below w.heap.size w w' := by
  have HC : Hid (∀ k (h : k < l.length), w.cell? ⟨b, o + k, none⟩ = some (.int .u8 ((l[k]).toNat : Int))) := fun k h => hc k _ (by rw [bcells_getElem?, List.getElem?_eq_getElem h]; rfl)
  clear hc
  go_enter Tryz.func51, Tryz.ntmps51
  go_wp2_with fail
  go_loop [3] (fun i => ∃ k : Nat, k ≤ l.length ∧ (∀ j, j < k → Lib.occAt l CC j = false) ∧ i = .int .i64 k) (fun i => l.length - (intOf i).toNat)
  case atStart => exact ⟨0, Nat.zero_le _, fun j h => by omega, rfl⟩
  case round =>
    obtain ⟨k, hk, hno, rfl⟩ := hrel
    have HN := Lib.hid hno
    clear hno
    by_cases hlt : k + 4 ≤ l.length
    · have hli : (k : Int) + 4 ≤ (l.length : Int) := by omega
      have k0 := HC.out k (by omega)
      have k1 := HC.out (k + 1) (by omega)
      have k2 := HC.out (k + 2) (by omega)
      have k3 := HC.out (k + 3) (by omega)
      have HO := Lib.hid (occ_int hlt _ _ _ _ rfl rfl rfl rfl)
      generalize ((l[k]'(by omega)).toNat : Int) = x0 at *
      generalize ((l[k + 1]'(by omega)).toNat : Int) = x1 at *
      generalize ((l[k + 2]'(by omega)).toNat : Int) = x2 at *
      generalize ((l[k + 3]'(by omega)).toNat : Int) = x3 at *
      by_cases y0 : x0 = 13
      · by_cases y1 : x1 = 10
        · by_cases y2 : x2 = 13
          · by_cases y3 : x3 = 10
            · have HF := Lib.hid (ends_found (by rw [HO.out, decide_eq_true y0, decide_eq_true y1, decide_eq_true y2, decide_eq_true y3]; rfl) HN.out)
              subst y0 y1 y2 y3
              go_wp2
              go_ret
              exact ⟨by rw [HF.out]; rfl, Below.refl _ _⟩
            · have HQ : Hid (Lib.occAt l CC k = false) := by unfold Hid; rw [HO.out, decide_eq_false y3]; simp
              subst y0 y1 y2
              go_wp2
              go_round
              case rel => exact ⟨k + 1, by omega, fun j hj => occ_step HN.out HQ.out hj, by go_num⟩
              case measure => simp [intOf]; omega
          · have HQ : Hid (Lib.occAt l CC k = false) := by unfold Hid; rw [HO.out, decide_eq_false y2]; simp
            subst y0 y1
            go_wp2
            go_round
            case rel => exact ⟨k + 1, by omega, fun j hj => occ_step HN.out HQ.out hj, by go_num⟩
            case measure => simp [intOf]; omega
        · have HQ : Hid (Lib.occAt l CC k = false) := by unfold Hid; rw [HO.out, decide_eq_false y1]; simp
          subst y0
          go_wp2
          go_round
          case rel => exact ⟨k + 1, by omega, fun j hj => occ_step HN.out HQ.out hj, by go_num⟩
          case measure => simp [intOf]; omega
      · have HQ : Hid (Lib.occAt l CC k = false) := by unfold Hid; rw [HO.out, decide_eq_false y0]; simp
        go_wp2
        go_round
        case rel => exact ⟨k + 1, by omega, fun j hj => occ_step HN.out HQ.out hj, by go_num⟩
        case measure => simp [intOf]; omega
    · have hli : ¬ (k : Int) + 4 ≤ (l.length : Int) := by omega
      have HF := Lib.hid (ends_not (l := l) fun j hj => HN.out j (by omega))
      go_wp2
      go_ret
      exact ⟨by rw [HF.out]; rfl, Below.refl _ _⟩
set_option maxRecDepth 100000 in
theorem ends_nil (a : Option Addr) (c : Nat) (w : World) : Calls Tryz.prog 51 #[.slice a 0 c] w fun e w' => e = .returned (.int .i64 (endsI [])) ∧ Below w.heap.size w w' := by
  have HF : Hid (endsI [] = -1) := ends_not fun j hj => by simp at hj
  go_enter Tryz.func51, Tryz.ntmps51
  go_wp2_with fail
  go_loop [3] (fun i => i = .int .i64 0) (fun _ => 0)
  case atStart => rfl
  case round =>
    obtain rfl := hrel
    go_wp2
    go_ret
    exact ⟨by rw [HF.out]; rfl, Below.refl _ _⟩
end Go.Proofs.YtnlooggibopknaaGreatDoor
