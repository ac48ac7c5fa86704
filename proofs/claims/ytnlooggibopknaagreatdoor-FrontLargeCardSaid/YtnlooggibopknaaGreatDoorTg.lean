/- What a request's bytes are, in plain words. -/
import Derived.Test.YtnlooggibopknaaGreatDoorMem
import Derived.Test.YtnlooggibopknaaGreatDoorSp
import Derived.Test.YtnlooggibopknaaGreatDoorW6
import Derived.Lib.Join
namespace Go.Proofs.YtnlooggibopknaaGreatDoor
open Go.RowKit

def itoaB (n : Int) : ByteArray := ⟨(Lib.itoa n).toArray⟩
theorem itoa_dec (n : Nat) : itoaB n = decB n := by
  unfold itoaB decB Lib.itoa
  rw [if_neg (by omega)]
  rfl
def sSlash : ByteArray := ⟨#[47]⟩
def sSpace : ByteArray := ⟨#[32]⟩
def sPrefix : ByteArray := ⟨#[63, 112, 114, 101, 102, 105, 120, 61]⟩
def sAfter : ByteArray := ⟨#[38, 97, 102, 116, 101, 114, 61]⟩
def sN : ByteArray := ⟨#[38, 110, 61]⟩
def sUpload : ByteArray := ⟨#[47, 63, 117, 112, 108, 111, 97, 100, 61]⟩
def sPart : ByteArray := ⟨#[38, 112, 97, 114, 116, 61]⟩
def sParts : ByteArray := ⟨#[38, 112, 97, 114, 116, 115, 61]⟩
def sVer : ByteArray := ⟨#[71, 76, 67, 47, 49]⟩
def sEnd : ByteArray := ⟨#[13, 10]⟩
def sId : ByteArray := ⟨#[105, 100, 58, 32]⟩
def sLen : ByteArray := ⟨#[108, 101, 110, 103, 116, 104, 58, 32]⟩
def commaB (ps : List Int) : ByteArray := ⟨(Lib.join (ps.map Lib.itoa) [44]).toArray⟩

def targetB (o : O) : ByteArray :=
  if o.kind = 1 ∨ o.kind = 2 then sSlash ++ o.bu
  else if o.kind = 6 then sSlash ++ o.bu ++ sPrefix ++ escB o.ke ++ sAfter ++ escB o.af ++ sN ++ itoaB o.n
  else if o.kind = 8 then sUpload ++ hexB o.up ++ sPart ++ itoaB o.n
  else if o.kind = 9 then sUpload ++ hexB o.up ++ sParts ++ commaB o.ps
  else if o.kind = 10 then sUpload ++ hexB o.up
  else sSlash ++ o.bu ++ sSlash ++ escB o.ke

def headB (o : O) (len : ByteArray) : ByteArray := methodB o.kind ++ sSpace ++ targetB o ++ sSpace ++ sVer ++ sEnd ++ sId ++ hexB o.id ++ sEnd ++ sLen ++ len ++ sEnd ++ sEnd
/-- A request's bytes. -/
def printL (o : O) : List UInt8 := (headB o (decB o.da.length)).data.toList ++ o.da

/-- What a right op's parts come to at most. -/
structure SmO (o : O) : Prop where
  bu : o.bu.size ≤ 64
  ke : o.ke.size ≤ 1024
  af : o.af.size ≤ 1024
  ps : o.ps.length ≤ 10000
  pe : ∀ p ∈ o.ps, 1 ≤ p ∧ p ≤ 10000
  da : o.da.length ≤ 16777216
  n0 : 0 ≤ o.n
  n1 : o.n ≤ 10000

theorem nameB_size {s : ByteArray} (h : nameB s = true) : 1 ≤ s.size ∧ s.size ≤ 64 := by
  unfold nameB longB at h
  simp only [Bool.and_eq_true, decide_eq_true_eq] at h
  omega
theorem rises_mem {l : List Int} (h : risesB l = true) : 1 ≤ l.length ∧ l.length ≤ 10000 ∧ ∀ p ∈ l, 1 ≤ p ∧ p ≤ 10000 := by
  unfold risesB at h
  simp only [Bool.and_eq_true, decide_eq_true_eq, List.all_eq_true, List.mem_range] at h
  refine ⟨h.1.1, h.1.2, fun p hp => ?_⟩
  obtain ⟨i, hi, rfl⟩ := List.mem_iff_getElem.1 hp
  have := h.2 i hi
  unfold part1 at this
  simp only [Bool.and_eq_true, decide_eq_true_eq] at this
  have e : atI l i = l[i] := by simp [atI, hi]
  rw [e] at this
  exact this.1
theorem sm_of_chk {o : O} (h : chkB o = true) : SmO o := by
  unfold chkB at h
  split at h
  · simp only [Bool.and_eq_true, beq_iff_eq] at h
    obtain ⟨⟨⟨⟨⟨⟨h1, h2⟩, h3⟩, h4⟩, h5⟩, h6⟩, h7⟩ := h
    have := nameB_size h1
    exact ⟨by omega, by omega, by omega, by omega, by rw [List.eq_nil_of_length_eq_zero h6]; simp, by omega, by omega, by omega⟩
  · split at h
    · simp only [Bool.and_eq_true, beq_iff_eq, longB, decide_eq_true_eq] at h
      obtain ⟨⟨⟨⟨⟨⟨h1, h2⟩, h3⟩, h4⟩, h5⟩, h6⟩, h7⟩ := h
      have := nameB_size h1
      exact ⟨by omega, by omega, by omega, by omega, by rw [List.eq_nil_of_length_eq_zero h6]; simp, by omega, by omega, by omega⟩
    · split at h
      · simp only [Bool.and_eq_true, beq_iff_eq, longB, decide_eq_true_eq] at h
        obtain ⟨⟨⟨⟨⟨⟨h1, h2⟩, h3⟩, h4⟩, h5⟩, h6⟩, h7⟩ := h
        have := nameB_size h1
        exact ⟨by omega, by omega, by omega, by omega, by rw [List.eq_nil_of_length_eq_zero h6]; simp, by omega, by omega, by omega⟩
      · split at h
        · simp only [Bool.and_eq_true, beq_iff_eq, longB, decide_eq_true_eq] at h
          obtain ⟨⟨⟨⟨⟨⟨h1, h2⟩, h3⟩, h4⟩, h5⟩, h6⟩, h7⟩ := h
          have := nameB_size h1
          exact ⟨by omega, by omega, by omega, by omega, by rw [List.eq_nil_of_length_eq_zero h6]; simp, by omega, by omega, by omega⟩
        · split at h
          · simp only [Bool.and_eq_true, beq_iff_eq, longB, decide_eq_true_eq] at h
            obtain ⟨⟨⟨⟨⟨h1, h2⟩, h3⟩, h4⟩, h6⟩, h7⟩ := h
            exact ⟨by omega, by omega, by omega, by omega, by rw [List.eq_nil_of_length_eq_zero h6]; simp, by omega, by omega, by omega⟩
          · split at h
            · simp only [Bool.and_eq_true, beq_iff_eq] at h
              obtain ⟨⟨⟨⟨⟨h1, h2⟩, h3⟩, h4⟩, h6⟩, h7⟩ := h
              have hr := rises_mem h6
              exact ⟨by omega, by omega, by omega, hr.2.1, hr.2.2, by omega, by omega, by omega⟩
            · split at h
              · simp only [Bool.and_eq_true, beq_iff_eq] at h
                obtain ⟨⟨⟨⟨⟨h1, h2⟩, h3⟩, h4⟩, h6⟩, h7⟩ := h
                exact ⟨by omega, by omega, by omega, by omega, by rw [List.eq_nil_of_length_eq_zero h6]; simp, by omega, by omega, by omega⟩
              · cases h

theorem hexB_size (u : Nat) : (hexB u).size = 16 := by unfold hexB hexL; simp [ByteArray.size]
theorem escB_size (s : ByteArray) : (escB s).size ≤ 3 * s.size := by
  unfold escB
  show (escL s.data.toList).toArray.size ≤ _
  rw [List.size_toArray]
  exact Nat.le_trans (escL_len _) (by simp)
theorem itoaL_len {n : Int} (h0 : 0 ≤ n) (h1 : n ≤ 10000) : (Lib.itoa n).length ≤ 5 := by
  unfold Lib.itoa
  rw [if_neg (by omega)]
  exact decDigits_len 4 _ (by omega)
theorem itoaB_size {n : Int} (h0 : 0 ≤ n) (h1 : n ≤ 10000) : (itoaB n).size ≤ 5 := by
  show (Lib.itoa n).toArray.size ≤ 5
  rw [List.size_toArray]
  exact itoaL_len h0 h1
theorem join_len (sep : List UInt8) : ∀ (xs : List (List UInt8)) (m : Nat), (∀ x ∈ xs, x.length ≤ m) → (Lib.join xs sep).length ≤ xs.length * (m + sep.length)
  | [], _, _ => by simp [Lib.join_nil]
  | [x], m, h => by rw [Lib.join_one]; have := h x (by simp); simp; omega
  | x :: y :: r, m, h => by
    have ih := join_len sep (y :: r) m (fun z hz => h z (by simp [List.mem_cons] at hz ⊢; exact .inr hz))
    have hx := h x (by simp)
    have e : Lib.join (x :: y :: r) sep = x ++ sep ++ Lib.join (y :: r) sep := by simp [Lib.join, List.intercalate, List.intersperse]
    rw [e, List.length_append, List.length_append, List.length_cons, Nat.add_mul]
    omega
theorem commaB_size {ps : List Int} (h : ps.length ≤ 10000) (he : ∀ p ∈ ps, 1 ≤ p ∧ p ≤ 10000) : (Lib.join (ps.map Lib.itoa) [44]).length ≤ 60000 := by
  have := join_len [44] (ps.map Lib.itoa) 5 (fun x hx => by
    obtain ⟨p, hp, rfl⟩ := List.mem_map.1 hx
    have := he p hp
    exact itoaL_len (by omega) (by omega))
  rw [List.length_map] at this
  simp at this
  omega
end Go.Proofs.YtnlooggibopknaaGreatDoor
