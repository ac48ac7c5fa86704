/- The walks of the reference's decimal, small, ends. -/
import Derived.Test.YtnlooggibopknaaGreatDoorRu
import Derived.Test.YtnlooggibopknaaGreatDoorW14
import Derived.Test.YtnlooggibopknaaGreatDoorPq
namespace Go.Proofs.YtnlooggibopknaaGreatDoor
open Go.RowKit Go.Sort

/-- The number that some digits say. -/
def valD (l : List UInt8) : Nat := l.foldl (fun acc c => 10 * acc + (c.toNat - 48)) 0
theorem valD_snoc (l : List UInt8) (c : UInt8) : valD (l ++ [c]) = 10 * valD l + (c.toNat - 48) := by unfold valD; rw [List.foldl_append]; rfl
def isD (c : UInt8) : Bool := decide (48 ≤ c.toNat) && decide (c.toNat ≤ 57)
theorem isD_iff (c : UInt8) : isD c = true ↔ 48 ≤ c.toNat ∧ c.toNat ≤ 57 := by unfold isD; simp
theorem valD_dec (n : Nat) : valD (Lib.decDigits n) = n := by
  induction n using Nat.strongRecOn with
  | ind n ih =>
    rw [Lib.decDigits]
    split
    · rename_i hn
      simp only [valD, List.foldl_cons, List.foldl_nil, u8dig n hn]
      omega
    · rename_i hn
      rw [valD_snoc, ih (n / 10) (by omega), u8dig _ (Nat.mod_lt n (by decide : 0 < 10))]
      omega
/-- Digits without noughts ahead. -/
def canon (l : List UInt8) : Bool := l.all isD && (decide (l.length = 1) || (decide (1 ≤ l.length) && decide (l[0]? ≠ some 48)))
theorem valD_pos : ∀ (n : Nat) (l : List UInt8), l.length = n → ∀ c r, l = c :: r → 49 ≤ c.toNat → 1 ≤ valD l
  | 0, l, hn, c, r, he, _ => by subst he; simp at hn
  | n + 1, l, hn, c, r, he, hc => by
    rcases List.eq_nil_or_concat r with rfl | ⟨r', d, rfl⟩
    · subst he
      simp only [valD, List.foldl_cons, List.foldl_nil]
      omega
    · subst he
      rw [List.concat_eq_append, ← List.cons_append, valD_snoc]
      have := valD_pos n (c :: r') (by simp at hn ⊢; omega) c r' rfl hc
      omega
theorem dec_of_canon : ∀ (n : Nat) (l : List UInt8), l.length = n → (∀ c ∈ l, isD c = true) → 1 ≤ l.length → (l.length = 1 ∨ l[0]? ≠ some 48) → Lib.decDigits (valD l) = l
  | 0, l, hn, _, h1, _ => by omega
  | n + 1, l, hn, hd, h1, hc => by
    rcases List.eq_nil_or_concat l with rfl | ⟨r, d, rfl⟩
    · simp at h1
    · rw [List.concat_eq_append] at *
      have hdd := (isD_iff d).1 (hd d (by simp))
      have hu : UInt8.ofNat (48 + (d.toNat - 48)) = d := by
        have e : 48 + (d.toNat - 48) = d.toNat := by omega
        rw [e]; simp
      rcases r with _ | ⟨c, r'⟩
      · have e : valD ([] ++ [d]) = d.toNat - 48 := by rw [valD_snoc]; show 10 * 0 + _ = _; omega
        rw [e, Lib.decDigits, dif_pos (by omega), hu]
        rfl
      · have hc0 : (c :: r' ++ [d])[0]? ≠ some 48 := by
          rcases hc with h | h
          · simp at h
          · exact h
        have hcd := (isD_iff c).1 (hd c (by simp))
        have hc48 : c ≠ 48 := fun e => hc0 (by simp [e])
        have hc49 : 49 ≤ c.toNat := by
          rcases Nat.lt_or_ge c.toNat 49 with h | h
          · exact absurd (UInt8.toNat_inj.1 (show c.toNat = (48 : UInt8).toNat by show c.toNat = 48; omega)) hc48
          · exact h
        have hp := valD_pos _ (c :: r') rfl c r' rfl hc49
        have ih := dec_of_canon n (c :: r') (by simp at hn ⊢; omega) (fun x hx => hd x (by simp at hx ⊢; rcases hx with h | h <;> simp [h])) (by simp) (.inr (by simpa using hc48))
        rw [valD_snoc, Lib.decDigits, dif_neg (by omega)]
        have e1 : (10 * valD (c :: r') + (d.toNat - 48)) / 10 = valD (c :: r') := by omega
        have e2 : (10 * valD (c :: r') + (d.toNat - 48)) % 10 = d.toNat - 48 := by omega
        rw [e1, e2, ih, hu]
theorem dec_head (n : Nat) (h1 : 1 ≤ n) : (Lib.decDigits n)[0]? ≠ some 48 := by
  induction n using Nat.strongRecOn with
  | ind n ih =>
    rw [Lib.decDigits]
    split
    · rename_i hn
      intro e
      simp only [List.getElem?_cons_zero, Option.some.injEq] at e
      have := congrArg UInt8.toNat e
      rw [u8dig n hn] at this
      have e48 : (48 : UInt8).toNat = 48 := rfl
      omega
    · rename_i hn
      have h2 := ih (n / 10) (by omega) (by omega)
      have h3 := dec_ne (n / 10)
      cases hl : Lib.decDigits (n / 10) with
      | nil => exact absurd hl h3
      | cons c r =>
        rw [hl] at h2
        simpa using h2
theorem canon_iff {l : List UInt8} : canon l = true ↔ ∃ n, Lib.decDigits n = l := by
  constructor
  · intro h
    unfold canon at h
    simp only [Bool.and_eq_true, Bool.or_eq_true, decide_eq_true_eq, List.all_eq_true] at h
    refine ⟨valD l, dec_of_canon _ l rfl h.1 ?_ ?_⟩
    · rcases h.2 with h2 | h2 <;> omega
    · rcases h.2 with h2 | h2
      · exact .inl h2
      · exact .inr h2.2
  · rintro ⟨n, rfl⟩
    unfold canon
    simp only [Bool.and_eq_true, Bool.or_eq_true, decide_eq_true_eq, List.all_eq_true]
    refine ⟨fun c hc => (isD_iff c).2 (dec_dig n c hc), ?_⟩
    rcases Nat.lt_or_ge n 10 with h | h
    · left; rw [Lib.decDigits, dif_pos h]; rfl
    · right
      refine ⟨?_, ?_⟩
      · have := dec_ne n
        cases hl : Lib.decDigits n with
        | nil => exact absurd hl this
        | cons c r => simp
      · exact dec_head n (by omega)
/-- A text that decimal takes. -/
def takesD (s : ByteArray) : Bool := decide (s.size ≤ 19) && canon (bl s)
theorem takesD_iff {s : ByteArray} : takesD s = true ↔ ∃ n, n < 10 ^ 19 ∧ s = decB n := by
  unfold takesD
  rw [Bool.and_eq_true, decide_eq_true_eq, canon_iff]
  constructor
  · rintro ⟨h1, n, h2⟩
    have h3 : s = decB n := bl_inj (by rw [bl_dec]; exact h2.symm)
    refine ⟨n, ?_, h3⟩
    have h4 := Lib.lt_pow_nDigits n
    rw [← Lib.decDigits_length, h2, bl_len] at h4
    exact Nat.lt_of_lt_of_le h4 (Nat.pow_le_pow_right (by decide) h1)
  · rintro ⟨n, h1, rfl⟩
    have h2 := decDigits_len 18 n h1
    refine ⟨?_, n, (bl_dec n).symm⟩
    rw [← bl_len, bl_dec]
    exact h2
structure GoodD (m : Int) (g : Bool) (v : Nat) : Prop where
  lo : 0 ≤ m
  hi : m ≤ 10995116277769
  small : g = false → m = (v : Int)
  great : g = true → 1099511627776 < m ∧ 1099511627776 < v
theorem good_step {m : Int} {g : Bool} {l : List UInt8} (h : GoodD m g (valD l)) (c : UInt8) (hm : m ≤ 1099511627776) (hd : isD c = true) : GoodD (10 * m + ((c.toNat : Int) - 48)) false (valD (l ++ [c])) := by
  have h1 := (isD_iff c).1 hd
  have hg : g = false := by
    cases g with
    | false => rfl
    | true => have := (h.great rfl).1; omega
  have h2 := h.small hg
  have h3 := h.lo
  refine ⟨by omega, by omega, fun _ => ?_, fun e => by cases e⟩
  rw [valD_snoc]
  omega
theorem good_more {m : Int} {g : Bool} {l : List UInt8} (h : GoodD m g (valD l)) (c : UInt8) (hm : 1099511627776 < m) : GoodD m true (valD (l ++ [c])) := by
  refine ⟨h.lo, h.hi, (fun e => by cases e), fun _ => ⟨hm, ?_⟩⟩
  rw [valD_snoc]
  cases hg : g with
  | false => have := h.small hg; omega
  | true => have := (h.great hg).2; omega
def DecR (s : ByteArray) (e : Ending) : Prop := ∃ (m : Int) (g : Bool), e = .returned (.tuple #[.int .i64 m, .bool g, .bool (takesD s)]) ∧ (takesD s = true → g = decide (1099511627776 < valD (bl s)) ∧ (valD (bl s) ≤ 1099511627776 → m = (valD (bl s) : Int)))

theorem dec_bad {s : ByteArray} (h : takesD s = false) : DecR s (.returned (.tuple #[.int .i64 0, .bool false, .bool false])) := ⟨0, false, by rw [h], fun e => by rw [h] at e; cases e⟩
theorem dec_good {s : ByteArray} {m : Int} {g b : Bool} (h : takesD s = true) (hg : GoodD m g (valD (bl s))) (hb : b = (g || decide (1099511627776 < m))) : DecR s (.returned (.tuple #[.int .i64 m, .bool b, .bool true])) := by
  refine ⟨m, b, by rw [h], fun _ => ?_⟩
  subst hb
  cases g with
  | false =>
    have h1 := hg.small rfl
    refine ⟨?_, fun _ => h1⟩
    rw [Bool.false_or, h1]
    congr 1
    exact propext (by omega)
  | true =>
    have h1 := hg.great rfl
    exact ⟨by rw [Bool.true_or]; exact (decide_eq_true h1.2).symm, fun h2 => by omega⟩
theorem bl0 {s : ByteArray} (h : 0 < s.size) : (bl s)[0]? = some s[0] := by
  show s.data.toList[0]? = _
  rw [Array.getElem?_toList, Array.getElem?_eq_getElem (show 0 < s.data.size from h)]
  rfl
theorem canon_zero {s : ByteArray} (h1 : 1 < s.size) (h2 : s[0].toNat = 48) : canon (bl s) = false := by
  have e : (bl s)[0]? = some 48 := by
    rw [bl0 (by omega)]
    congr 1
    exact UInt8.toNat_inj.1 h2
  unfold canon
  rw [e, decide_eq_false (show ¬ (bl s).length = 1 by rw [bl_len]; omega)]
  simp
theorem takes_rest {s : ByteArray} (h0 : 0 < s.size) (h19 : s.size ≤ 19) (hz : ¬ (1 < s.size ∧ s[0].toNat = 48)) : takesD s = (bl s).all isD := by
  unfold takesD canon
  rw [decide_eq_true h19, Bool.true_and]
  have hh : (decide ((bl s).length = 1) || decide (1 ≤ (bl s).length) && decide ((bl s)[0]? ≠ some 48)) = true := by
    rw [bl_len]
    by_cases h1 : s.size = 1
    · rw [decide_eq_true h1]; rfl
    · have e : (bl s)[0]? ≠ some 48 := by
        rw [bl0 h0]
        intro e
        have e2 := congrArg UInt8.toNat (Option.some.inj e)
        exact hz ⟨by omega, e2⟩
      rw [decide_eq_true (show 1 ≤ s.size by omega), decide_eq_true e]
      simp
  rw [hh, Bool.and_true]

set_option maxHeartbeats 2000000 in
set_option maxRecDepth 100000 in
theorem decimalR_any (s : ByteArray) (w : World) (hs : s.size ≤ 1073741824) :
    Calls Tryz.prog 53 #[.string s] w fun e w' => DecR s e ∧ Below w.heap.size w w' := by
  by_cases h0 : s.size = 0
  · obtain rfl : s = ⟨#[]⟩ := bl_inj (List.eq_nil_of_length_eq_zero (by rw [bl_len]; exact h0))
    have HT : Hid (takesD ⟨#[]⟩ = false) := by unfold Hid; decide
    go_enter Tryz.func53, Tryz.ntmps53
    go_wp2
    go_ret3
    exact ⟨dec_bad HT.out, Below.refl _ _⟩
  have hq0 : (s.toList == ([] : List UInt8)) = false := by
    rw [beq_eq_false_iff_ne]
    intro e
    rw [ByteArray.toList_eq] at e
    have := congrArg List.length e
    rw [show s.data.toList.length = s.size from bl_len s] at this
    exact h0 this
  by_cases h19 : 19 < s.size
  · have hi : (19 : Int) < (s.size : Int) := by omega
    have HT : Hid (takesD s = false) := by unfold Hid takesD; rw [decide_eq_false (by omega)]; rfl
    go_enter Tryz.func53, Tryz.ntmps53
    go_wp2
    go_ret3
    exact ⟨dec_bad HT.out, Below.refl _ _⟩
  have hi : ¬ (19 : Int) < (s.size : Int) := by omega
  have hp : 0 < s.size := by omega
  by_cases hz : 1 < s.size ∧ s[0].toNat = 48
  · obtain ⟨hz1, hz2⟩ := hz
    have hzi : (1 : Int) < (s.size : Int) := by omega
    have hzb : (s[0].toNat : Int) = 48 := by omega
    have HT : Hid (takesD s = false) := by
      unfold Hid takesD
      rw [canon_zero hz1 hz2, Bool.and_false]
    go_enter Tryz.func53, Tryz.ntmps53
    go_wp2
    go_ret3
    exact ⟨dec_bad HT.out, Below.refl _ _⟩
  have HT := Lib.hid (takes_rest hp (by omega) hz)
  go_enter Tryz.func53, Tryz.ntmps53
  by_cases hz1 : 1 < s.size
  · have hzi : (1 : Int) < (s.size : Int) := by omega
    have hzb : ¬ (s[0].toNat : Int) = 48 := by omega
    clear hz
    go_wp2_with fail
    go_loop [5, 6, 7] (fun n g i => ∃ (k : Nat) (m : Int) (gb : Bool), k ≤ s.size ∧ ((bl s).take k).all isD = true ∧ n = .int .i64 m ∧ g = .bool gb ∧ i = .int .i64 k ∧ Hid (GoodD m gb (valD ((bl s).take k)))) (fun _ _ i => s.size - (intOf i).toNat)
    case atStart => exact ⟨0, 0, false, Nat.zero_le _, rfl, rfl, rfl, rfl, ⟨by omega, by omega, (fun _ => rfl), (fun e => by cases e)⟩⟩
    case round =>
      obtain ⟨k, m, gb, hk, ha, rfl, rfl, rfl, hg⟩ := hrel
      have HA := Lib.hid ha
      have hm0 := hg.out.lo
      have hm1 := hg.out.hi
      clear ha
      by_cases hlt : k < s.size
      · have HS := Lib.hid (all_snoc isD s k hlt)
        have HF := Lib.hid (all_false isD s k hlt)
        have HK := Lib.hid (take_snoc s k hlt)
        by_cases hd : isD s[k] = true
        · have HD := Lib.hid hd
          have hdd := (isD_iff _).1 hd
          have hd1 : ¬ (s[k].toNat : Int) < 48 := by omega
          have hd2 : ¬ (57 : Int) < (s[k].toNat : Int) := by omega
          have hd3 : (s[k].toNat : Int) ≤ 57 := by omega
          have hd4 : (48 : Int) ≤ (s[k].toNat : Int) := by omega
          clear hd hdd
          by_cases hm : 1099511627776 < m
          · go_wp2
            go_round
            case rel => exact ⟨k + 1, m, true, by omega, HS.out.trans (by rw [HD.out, Bool.and_true]; exact HA.out), rfl, rfl, by go_num, (by unfold Hid; rw [show (bl s).take (k + 1) = _ from HK.out]; exact good_more hg.out _ hm)⟩
            case measure => simp [intOf]; omega
          · have hgb : gb = false := by
              cases hgg : gb with
              | false => rfl
              | true => have := (hg.out.great hgg).1; omega
            subst hgb
            have hw : IntKind.u8.wrap ((s[k].toNat : Int) - 48) = (s[k].toNat : Int) - 48 := by rw [IntKind.wrap_u8]; omega
            go_wp2
            go_round
            case rel => exact ⟨k + 1, 10 * m + ((s[k].toNat : Int) - 48), false, by omega, HS.out.trans (by rw [HD.out, Bool.and_true]; exact HA.out), by go_num, rfl, by go_num, (by unfold Hid; rw [show (bl s).take (k + 1) = _ from HK.out]; exact good_step hg.out _ (by omega) HD.out)⟩
            case measure => simp [intOf]; omega
        · have HN := HF.out (by simpa using hd)
          have HN := Lib.hid HN
          by_cases hd1 : (s[k].toNat : Int) < 48
          · go_wp2
            go_ret3
            exact ⟨dec_bad (by rw [HT.out]; exact HN.out), Below.refl _ _⟩
          · have hd2 : (57 : Int) < (s[k].toNat : Int) := Int.not_le.1 fun h => hd ((isD_iff _).2 ⟨by omega, by omega⟩)
            go_wp2
            go_ret3
            exact ⟨dec_bad (by rw [HT.out]; exact HN.out), Below.refl _ _⟩
      · have HE := Lib.hid (take_all s k (by omega))
        have HY : Hid (takesD s = true) := by unfold Hid; rw [HT.out, ← HA.out, show (bl s).take k = bl s from HE.out]
        have hg' : Hid (GoodD m gb (valD (bl s))) := by have := hg.out; rw [show (bl s).take k = bl s from HE.out] at this; exact this
        cases gb with
        | true =>
          go_wp2
          go_ret3
          exact ⟨dec_good HY.out hg'.out rfl, Below.refl _ _⟩
        | false =>
          go_wp2
          go_ret3
          exact ⟨dec_good HY.out hg'.out (by simp), Below.refl _ _⟩
  · have hzi : ¬ (1 : Int) < (s.size : Int) := by omega
    clear hz
    go_wp2_with fail
    go_loop [5, 6, 7] (fun n g i => ∃ (k : Nat) (m : Int) (gb : Bool), k ≤ s.size ∧ ((bl s).take k).all isD = true ∧ n = .int .i64 m ∧ g = .bool gb ∧ i = .int .i64 k ∧ Hid (GoodD m gb (valD ((bl s).take k)))) (fun _ _ i => s.size - (intOf i).toNat)
    case atStart => exact ⟨0, 0, false, Nat.zero_le _, rfl, rfl, rfl, rfl, ⟨by omega, by omega, (fun _ => rfl), (fun e => by cases e)⟩⟩
    case round =>
      obtain ⟨k, m, gb, hk, ha, rfl, rfl, rfl, hg⟩ := hrel
      have HA := Lib.hid ha
      have hm0 := hg.out.lo
      have hm1 := hg.out.hi
      clear ha
      by_cases hlt : k < s.size
      · have HS := Lib.hid (all_snoc isD s k hlt)
        have HF := Lib.hid (all_false isD s k hlt)
        have HK := Lib.hid (take_snoc s k hlt)
        by_cases hd : isD s[k] = true
        · have HD := Lib.hid hd
          have hdd := (isD_iff _).1 hd
          have hd1 : ¬ (s[k].toNat : Int) < 48 := by omega
          have hd2 : ¬ (57 : Int) < (s[k].toNat : Int) := by omega
          have hd3 : (s[k].toNat : Int) ≤ 57 := by omega
          have hd4 : (48 : Int) ≤ (s[k].toNat : Int) := by omega
          clear hd hdd
          by_cases hm : 1099511627776 < m
          · go_wp2
            go_round
            case rel => exact ⟨k + 1, m, true, by omega, HS.out.trans (by rw [HD.out, Bool.and_true]; exact HA.out), rfl, rfl, by go_num, (by unfold Hid; rw [show (bl s).take (k + 1) = _ from HK.out]; exact good_more hg.out _ hm)⟩
            case measure => simp [intOf]; omega
          · have hgb : gb = false := by
              cases hgg : gb with
              | false => rfl
              | true => have := (hg.out.great hgg).1; omega
            subst hgb
            have hw : IntKind.u8.wrap ((s[k].toNat : Int) - 48) = (s[k].toNat : Int) - 48 := by rw [IntKind.wrap_u8]; omega
            go_wp2
            go_round
            case rel => exact ⟨k + 1, 10 * m + ((s[k].toNat : Int) - 48), false, by omega, HS.out.trans (by rw [HD.out, Bool.and_true]; exact HA.out), by go_num, rfl, by go_num, (by unfold Hid; rw [show (bl s).take (k + 1) = _ from HK.out]; exact good_step hg.out _ (by omega) HD.out)⟩
            case measure => simp [intOf]; omega
        · have HN := HF.out (by simpa using hd)
          have HN := Lib.hid HN
          by_cases hd1 : (s[k].toNat : Int) < 48
          · go_wp2
            go_ret3
            exact ⟨dec_bad (by rw [HT.out]; exact HN.out), Below.refl _ _⟩
          · have hd2 : (57 : Int) < (s[k].toNat : Int) := Int.not_le.1 fun h => hd ((isD_iff _).2 ⟨by omega, by omega⟩)
            go_wp2
            go_ret3
            exact ⟨dec_bad (by rw [HT.out]; exact HN.out), Below.refl _ _⟩
      · have HE := Lib.hid (take_all s k (by omega))
        have HY : Hid (takesD s = true) := by unfold Hid; rw [HT.out, ← HA.out, show (bl s).take k = bl s from HE.out]
        have hg' : Hid (GoodD m gb (valD (bl s))) := by have := hg.out; rw [show (bl s).take k = bl s from HE.out] at this; exact this
        cases gb with
        | true =>
          go_wp2
          go_ret3
          exact ⟨dec_good HY.out hg'.out rfl, Below.refl _ _⟩
        | false =>
          go_wp2
          go_ret3
          exact ⟨dec_good HY.out hg'.out (by simp), Below.refl _ _⟩
end Go.Proofs.YtnlooggibopknaaGreatDoor
