/- The plain words of the front's texts: bytes that are kept, digits, kinds, names. No program here. -/
import Derived.WalkKit
namespace Go.Proofs.YtnlooggibopknaaGreatDoor
open Go.RowKit

def keptN (c : Int) : Bool := (decide (65 ≤ c) && decide (c ≤ 90)) || (decide (97 ≤ c) && decide (c ≤ 122)) || (decide (48 ≤ c) && decide (c ≤ 57)) || c == 45 || c == 46 || c == 95 || c == 126
def digN (c ten : Int) : Int := if c < 10 then 48 + c else ten + c - 10
def valN (c ten : Int) : Int := if 48 ≤ c ∧ c ≤ 57 then c - 48 else if ten ≤ c ∧ c < ten + 6 then c - ten + 10 else -1
def knownN (s : Int) : Bool := s == 200 || s == 400 || s == 404 || s == 408 || s == 409 || s == 413 || s == 410 || s == 503 || s == 507
def bPUT : ByteArray := ⟨#[80, 85, 84]⟩
def bDELETE : ByteArray := ⟨#[68, 69, 76, 69, 84, 69]⟩
def bPOST : ByteArray := ⟨#[80, 79, 83, 84]⟩
def bGET : ByteArray := ⟨#[71, 69, 84]⟩
def methodB (k : Int) : ByteArray := if k = 1 ∨ k = 3 ∨ k = 8 then bPUT else if k = 2 ∨ k = 5 ∨ k = 10 then bDELETE else if k = 7 ∨ k = 9 then bPOST else bGET
def longB (n lo hi : Int) : Bool := decide (lo ≤ n) && decide (n ≤ hi)
def nameN (c : Int) : Bool := (decide (97 ≤ c) && decide (c ≤ 122)) || (decide (48 ≤ c) && decide (c ≤ 57)) || c == 45 || c == 46
def nameB (s : ByteArray) : Bool := longB s.size 1 64 && s.data.toList.all fun c => nameN c.toNat

theorem ret_bool {a b : Bool} (h : a = b) : Ending.returned (.bool a) = .returned (.bool b) := by rw [h]
theorem ret_int {k : IntKind} {a b : Int} (h : a = b) : Ending.returned (.int k a) = .returned (.int k b) := by rw [h]
theorem ret_str {a b : ByteArray} (h : a = b) : Ending.returned (.string a) = .returned (.string b) := by rw [h]

theorem take_snoc (s : ByteArray) (k : Nat) (h : k < s.size) : s.data.toList.take (k + 1) = s.data.toList.take k ++ [s[k]] := by
  rw [List.take_succ_eq_append_getElem (by simpa using h)]; rfl
theorem take_all (s : ByteArray) (k : Nat) (h : s.size ≤ k) : s.data.toList.take k = s.data.toList := List.take_of_length_le (by simpa using h)
theorem all_snoc (p : UInt8 → Bool) (s : ByteArray) (k : Nat) (h : k < s.size) : (s.data.toList.take (k + 1)).all p = ((s.data.toList.take k).all p && p s[k]) := by
  rw [take_snoc s k h, List.all_append]; simp
theorem all_false (p : UInt8 → Bool) (s : ByteArray) (k : Nat) (h : k < s.size) (hp : p s[k] = false) : s.data.toList.all p = false := by
  rw [List.all_eq_false]; exact ⟨s[k], by show s.data[k] ∈ _; simp, by simp [hp]⟩
end Go.Proofs.YtnlooggibopknaaGreatDoor

/- Escape and Unescape as functions on bytes. No program here. -/
namespace Go.Proofs.YtnlooggibopknaaGreatDoor
open Go.RowKit

def escC (c : UInt8) : List UInt8 := if keptN c.toNat then [c] else [37, UInt8.ofNat (digN (c.toNat / 16) 65).toNat, UInt8.ofNat (digN (c.toNat % 16) 65).toNat]
def escL (l : List UInt8) : List UInt8 := l.flatMap escC
def escB (s : ByteArray) : ByteArray := ⟨(escL s.data.toList).toArray⟩

theorem escC_len (c : UInt8) : (escC c).length ≤ 3 := by unfold escC; split <;> simp
theorem escL_len (l : List UInt8) : (escL l).length ≤ 3 * l.length := by
  induction l with
  | nil => simp [escL]
  | cons c l ih => have := escC_len c; simp only [escL, List.flatMap_cons, List.length_append, List.length_cons] at *; omega
theorem esc_snoc (s : ByteArray) (k : Nat) (h : k < s.size) : escL (s.data.toList.take (k + 1)) = escL (s.data.toList.take k) ++ escC s[k] := by
  rw [take_snoc s k h]; simp [escL]
theorem esc_le (s : ByteArray) (k : Nat) : (escL (s.data.toList.take k)).length ≤ 3 * k := Nat.le_trans (escL_len _) (Nat.mul_le_mul_left 3 (List.length_take_le _ _))

theorem tab_dig : ∀ q : Fin 16, (⟨#[48, 49, 50, 51, 52, 53, 54, 55, 56, 57, 65, 66, 67, 68, 69, 70]⟩ : ByteArray)[q.val]'(by have := q.2; exact this) = UInt8.ofNat (digN q.val 65).toNat := by decide
theorem escC_kept (c : UInt8) (h : keptN c.toNat = true) : escC c = [c] := by unfold escC; rw [if_pos h]
theorem escC_not (c : UInt8) (q r : Nat) (h : ¬ keptN c.toNat = true) (hq : (c.toNat / 16 : Int) = q) (hr : (c.toNat % 16 : Int) = r) : escC c = [37, UInt8.ofNat (digN q 65).toNat, UInt8.ofNat (digN r 65).toNat] := by
  unfold escC; rw [if_neg h, hq, hr]


def hexU (c : Int) : Int := valN c 65
theorem val_digU : ∀ q : Fin 16, valN (UInt8.ofNat (digN q.val 65).toNat).toNat 65 = q.val := by decide
theorem val_digL : ∀ q : Fin 16, valN (UInt8.ofNat (digN q.val 97).toNat).toNat 97 = q.val := by decide
theorem kept_dig (c : UInt8) (h : keptN c.toNat = true) : c ≠ 37 := by rintro rfl; revert h; decide
theorem valN_lt (c ten : Int) (h : 0 ≤ valN c ten) : valN c ten < 16 := by unfold valN at *; split <;> (try split) <;> simp_all <;> omega
theorem escC_cases (c : UInt8) : (keptN c.toNat = true ∧ escC c = [c]) ∨ (∃ q r : Fin 16, c.toNat = 16 * q.val + r.val ∧ escC c = [37, UInt8.ofNat (digN q.val 65).toNat, UInt8.ofNat (digN r.val 65).toNat]) := by
  by_cases h : keptN c.toNat = true
  · exact .inl ⟨h, escC_kept c h⟩
  · have hc := c.toNat_lt
    refine .inr ⟨⟨c.toNat / 16, by omega⟩, ⟨c.toNat % 16, by omega⟩, by simp; omega, ?_⟩
    exact escC_not c (c.toNat / 16) (c.toNat % 16) h (by omega) (by omega)

/-- Escape hides nothing. -/
theorem escL_inj : ∀ a b : List UInt8, escL a = escL b → a = b
  | [], [], _ => rfl
  | [], d :: b, h => by
    rcases escC_cases d with ⟨_, e⟩ | ⟨q, r, _, e⟩ <;> simp [escL, e] at h
  | c :: a, [], h => by
    rcases escC_cases c with ⟨_, e⟩ | ⟨q, r, _, e⟩ <;> simp [escL, e] at h
  | c :: a, d :: b, h => by
    have ih := escL_inj a b
    simp only [escL, List.flatMap_cons] at h ih
    rcases escC_cases c with ⟨k1, e1⟩ | ⟨q1, r1, n1, e1⟩ <;> rcases escC_cases d with ⟨k2, e2⟩ | ⟨q2, r2, n2, e2⟩ <;> rw [e1, e2] at h <;> simp only [List.cons_append, List.nil_append, List.cons.injEq] at h
    · rw [h.1, ih h.2]
    · exact absurd h.1 (kept_dig c k1)
    · exact absurd h.1.symm (kept_dig d k2)
    · obtain ⟨_, h1, h2, h3⟩ := h
      have v1 := val_digU q1
      have v2 := val_digU q2
      have v3 := val_digU r1
      have v4 := val_digU r2
      rw [h1] at v1
      rw [h2] at v3
      rw [ih h3]
      congr 1
      apply UInt8.toNat_inj.1
      omega

open Classical in
/-- The text whose Escape this is. -/
noncomputable def unescL (s : List UInt8) : Option (List UInt8) := if h : ∃ t, escL t = s then some h.choose else none
theorem unescL_some {s t : List UInt8} (h : escL t = s) : unescL s = some t := by
  have hx : ∃ t, escL t = s := ⟨t, h⟩
  unfold unescL
  rw [dif_pos hx]
  exact congrArg some (escL_inj _ _ (hx.choose_spec.trans h.symm))
theorem unescL_none {s : List UInt8} (h : ∀ t, escL t ≠ s) : unescL s = none := by
  unfold unescL
  rw [dif_neg (by rintro ⟨t, ht⟩; exact h t ht)]
theorem unescL_iff {s t : List UInt8} : unescL s = some t ↔ escL t = s := by
  refine ⟨fun h => ?_, unescL_some⟩
  unfold unescL at h
  split at h
  · rename_i hx
    have := Option.some.inj h
    rw [← this]; exact hx.choose_spec
  · cases h

/-- What a reader knows in the middle: whatever text this is the Escape of begins with what was read. -/
def Mid (s : List UInt8) (i : Nat) (out : List UInt8) : Prop := ∀ t, escL t = s → ∃ rest, t = out ++ rest ∧ escL rest = s.drop i

theorem Mid.start (s : List UInt8) : Mid s 0 [] := fun t h => ⟨t, rfl, by simpa using h⟩
theorem Mid.false {s : List UInt8} (h : ∀ t, escL t ≠ s) (i : Nat) (out : List UInt8) : Mid s i out := fun t ht => absurd ht (h t)
theorem Mid.plain {s : List UInt8} {i : Nat} {out : List UInt8} (h : Mid s i out) (hi : i < s.length) (hc : s[i] ≠ 37) : Mid s (i + 1) (out ++ [s[i]]) := by
  intro t ht
  obtain ⟨rest, rfl, hr⟩ := h t ht
  rw [List.drop_eq_getElem_cons hi] at hr
  cases rest with
  | nil => simp [escL] at hr; omega
  | cons c rest =>
    simp only [escL, List.flatMap_cons] at hr
    rcases escC_cases c with ⟨k, e⟩ | ⟨q, r, n, e⟩ <;> rw [e] at hr <;> simp only [List.cons_append, List.nil_append, List.cons.injEq] at hr
    · exact ⟨rest, by rw [hr.1]; simp, hr.2⟩
    · exact absurd hr.1.symm hc
theorem Mid.hex {s : List UInt8} {i : Nat} {out : List UInt8} (h : Mid s i out) (hi : i < s.length) (hc : s[i] = 37) (t : List UInt8) (ht : escL t = s) :
    ∃ (h2 : i + 2 < s.length), 0 ≤ valN s[i + 1].toNat 65 ∧ 0 ≤ valN s[i + 2].toNat 65 ∧ ∃ rest, t = out ++ [UInt8.ofNat (16 * valN s[i + 1].toNat 65 + valN s[i + 2].toNat 65).toNat] ++ rest ∧ escL rest = s.drop (i + 3) := by
  obtain ⟨rest, rfl, hr⟩ := h t ht
  have hlen := congrArg List.length hr
  rw [List.drop_eq_getElem_cons hi] at hr
  cases rest with
  | nil => simp [escL] at hr; omega
  | cons c rest =>
    simp only [escL, List.flatMap_cons] at hr hlen
    rcases escC_cases c with ⟨k, e⟩ | ⟨q, r, n, e⟩ <;> rw [e] at hr hlen <;> simp only [List.cons_append, List.nil_append, List.cons.injEq, List.length_cons, List.length_drop] at hr hlen
    · exact absurd (hr.1.trans hc) (kept_dig c k)
    · have h2 : i + 2 < s.length := by omega
      refine ⟨h2, ?_⟩
      obtain ⟨_, hr⟩ := hr
      rw [List.drop_eq_getElem_cons (by omega), List.drop_eq_getElem_cons (by omega)] at hr
      simp only [List.cons.injEq] at hr
      obtain ⟨e1, e2, e3⟩ := hr
      rw [← e1, ← e2, val_digU q, val_digU r]
      refine ⟨by omega, by omega, rest, ?_, e3⟩
      have : c = UInt8.ofNat (16 * (q.val : Int) + r.val).toNat := by
        apply UInt8.toNat_inj.1
        have hq := q.2
        have hr := r.2
        rw [UInt8.toNat_ofNat']
        omega
      rw [this]
      simp
theorem Mid.step {s : List UInt8} {i : Nat} {out : List UInt8} (h : Mid s i out) (hi : i < s.length) (hc : s[i] = 37) (h2 : i + 2 < s.length) : Mid s (i + 3) (out ++ [UInt8.ofNat (16 * valN s[i + 1].toNat 65 + valN s[i + 2].toNat 65).toNat]) := by
  intro t ht
  obtain ⟨_, _, _, rest, e, hr⟩ := h.hex hi hc t ht
  exact ⟨rest, e, hr⟩
theorem Mid.short {s : List UInt8} {i : Nat} {out : List UInt8} (h : Mid s i out) (hi : i < s.length) (hc : s[i] = 37) (h2 : s.length ≤ i + 2) : ∀ t, escL t ≠ s := fun t ht => by
  obtain ⟨h3, _⟩ := h.hex hi hc t ht
  omega
theorem Mid.bad {s : List UInt8} {i : Nat} {out : List UInt8} (h : Mid s i out) (hi : i < s.length) (hc : s[i] = 37) (h2 : i + 2 < s.length) (hb : valN s[i + 1].toNat 65 < 0 ∨ valN s[i + 2].toNat 65 < 0) : ∀ t, escL t ≠ s := fun t ht => by
  obtain ⟨_, h3, h4, _⟩ := h.hex hi hc t ht
  omega
theorem Mid.done {s out : List UInt8} {i : Nat} (h : Mid s i out) (hi : s.length ≤ i) : unescL s = if escL out = s then some out else none := by
  split
  · rename_i he; exact unescL_some he
  · rename_i he
    refine unescL_none fun t ht => ?_
    obtain ⟨rest, rfl, hr⟩ := h t ht
    rw [List.drop_of_length_le hi] at hr
    cases rest with
    | nil => rw [List.append_nil] at ht; exact he ht
    | cons c rest => rcases escC_cases c with ⟨k, e⟩ | ⟨q, r, n, e⟩ <;> simp [escL, e] at hr
end Go.Proofs.YtnlooggibopknaaGreatDoor
