/- What front.Parse makes of bytes, in plain words. -/
import Derived.Test.YtnlooggibopknaaGreatDoorW32
namespace Go.Proofs.YtnlooggibopknaaGreatDoor
open Go.RowKit

theorem tp_size (s p : ByteArray) : (tp s p).size ≤ s.size := by
  show (List.toArray _).size ≤ _
  rw [List.size_toArray]
  have hs : s.data.toList.length = s.size := Array.length_toList
  unfold Lib.trimPrefix
  split
  · rw [List.length_drop]; omega
  · omega
theorem upRest_size (s : ByteArray) : (upRest s).size ≤ s.size := by
  unfold upRest
  split
  · rw [ByteArray.size_extract]; omega
  · exact Nat.zero_le _

theorem z64 : 0 < 2 ^ 64 := by decide
/-- What is read has numbers of their types, no data, and a name that is no longer than the text. -/
structure Rd (o : O) (n : Nat) : Prop where
  ok : OkO o
  da : o.da = []
  bu : o.bu.size ≤ n
theorem Rd.mono {o : O} {n m : Nat} (h : Rd o n) (hm : n ≤ m) : Rd o m := ⟨h.ok, h.da, Nat.le_trans h.bu hm⟩
theorem numF_le {l : List UInt8} {m : Nat} (h : numF l = some m) : m ≤ 9223372036854775807 := (numF_iff.1 h).1
theorem unhex_lt {l : List UInt8} {u : Nat} (h : unhexL l = some u) : u < 2 ^ 64 := (unhexL_iff.1 h).1
theorem rd_upload {how s : ByteArray} {o : O} (h : uploadF how s = some o) : Rd o s.size := by
  unfold uploadF at h
  cases hu : unhexL (upId s).data.toList with
  | none => rw [hu] at h; cases h
  | some u =>
    have hlt := unhex_lt hu
    rw [hu, Option.bind_some] at h
    unfold uploadU at h
    split at h
    · cases hn : numF (tp (upRest s) sPart).data.toList with
      | none => rw [hn] at h; cases h
      | some m =>
        rw [hn, Option.map_some] at h
        cases h
        have := numF_le hn
        exact ⟨⟨z64, hlt, by show -9223372036854775808 ≤ (m : Int); omega, by show (m : Int) ≤ 9223372036854775807; omega⟩, rfl, Nat.zero_le _⟩
    · split at h
      · cases hn : numsF (spl (tp (upRest s) sParts) sComma) with
        | none => rw [hn] at h; cases h
        | some m =>
          rw [hn, Option.map_some] at h
          cases h
          exact ⟨⟨z64, hlt, by show (-9223372036854775808 : Int) ≤ 0; decide, by show (0 : Int) ≤ 9223372036854775807; decide⟩, rfl, Nat.zero_le _⟩
      · split at h
        · cases h
          exact ⟨⟨z64, hlt, by show (-9223372036854775808 : Int) ≤ 0; decide, by show (0 : Int) ≤ 9223372036854775807; decide⟩, rfl, Nat.zero_le _⟩
        · cases h
theorem rd_plain {how s : ByteArray} {o : O} (h : plainF how s = some o) : Rd o s.size := by
  unfold plainF at h
  split at h
  · rename_i p hp
    have hs := cutO_size (show cutO s sPrefix = some (p.1, p.2) from hp)
    unfold listF at h
    cases h1 : cutO p.2 sAfter with
    | none => rw [h1] at h; cases h
    | some q =>
      rw [h1, Option.bind_some] at h
      cases h2 : cutO q.2 sN with
      | none => rw [h2] at h; cases h
      | some r =>
        rw [h2, Option.bind_some] at h
        cases h3 : unescL q.1.data.toList with
        | none => rw [h3] at h; cases h
        | some k =>
          rw [h3, Option.bind_some] at h
          cases h4 : unescL r.1.data.toList with
          | none => rw [h4] at h; cases h
          | some a =>
            rw [h4, Option.bind_some] at h
            cases h5 : numF r.2.data.toList with
            | none => rw [h5] at h; cases h
            | some m =>
              rw [h5, Option.map_some] at h
              cases h
              have := numF_le h5
              exact ⟨⟨z64, z64, by show -9223372036854775808 ≤ (m : Int); omega, by show (m : Int) ≤ 9223372036854775807; omega⟩, rfl, hs.1⟩
  · cases h
    exact ⟨⟨z64, z64, by show (-9223372036854775808 : Int) ≤ 0; decide, by show (0 : Int) ≤ 9223372036854775807; decide⟩, rfl, Nat.le_refl _⟩
theorem rd_target {how s : ByteArray} {o : O} (h : targetF how s = some o) : Rd o s.size := by
  unfold targetF at h
  split at h
  · exact (rd_upload h).mono (tp_size _ _)
  · cases h1 : cutO s sSlash with
    | none => rw [h1] at h; cases h
    | some p =>
      have hs := cutO_size (show cutO s sSlash = some (p.1, p.2) from h1)
      rw [h1, Option.bind_some] at h
      unfold slashF at h
      split at h
      · rename_i q hq
        have hs2 := cutO_size (show cutO p.2 sSlash = some (q.1, q.2) from hq)
        split at h
        · exact (rd_plain h).mono hs.2
        · unfold keyedF at h
          cases h3 : unescL q.2.data.toList with
          | none => rw [h3] at h; cases h
          | some k =>
            rw [h3, Option.map_some] at h
            cases h
            exact ⟨⟨z64, z64, by show (-9223372036854775808 : Int) ≤ 0; decide, by show (0 : Int) ≤ 9223372036854775807; decide⟩, rfl, by show q.1.size ≤ _; omega⟩
      · exact (rd_plain h).mono hs.2
theorem rd_head {s t : ByteArray} {o : O} (h : headF s = some (o, t)) : Rd o s.size ∧ t.size ≤ s.size := by
  by_cases h3 : (spl s sEnd).length = 3
  · obtain ⟨l0, l1, l2, h3⟩ := three_of h3
    have hz0 : l0.size ≤ s.size := spl_size (sep := sEnd) (by rw [h3]; simp)
    have hz2 : l2.size ≤ s.size := spl_size (sep := sEnd) (by rw [h3]; simp)
    rw [headF_of h3] at h
    by_cases h4 : (spl l0 sSpace).length = 3
    · obtain ⟨a, b, c, h4⟩ := three_of h4
      have hz1 : b.size ≤ l0.size := spl_size (sep := sSpace) (by rw [h4]; simp)
      rw [h4] at h
      unfold headW at h
      simp only at h
      split at h
      · cases h5 : targetF a b with
        | none => rw [h5] at h; cases h
        | some o' =>
          have hr := rd_target h5
          rw [h5, Option.bind_some] at h
          unfold headT at h
          split at h
          · cases h6 : unhexL (tp l1 sId).data.toList with
            | none => rw [h6] at h; cases h
            | some u =>
              have hlt := unhex_lt h6
              rw [h6, Option.bind_some] at h
              split at h
              · cases h
                exact ⟨⟨⟨hlt, hr.ok.up, hr.ok.n0, hr.ok.n1⟩, hr.da, by show o'.bu.size ≤ _; have := hr.bu; omega⟩, Nat.le_trans (tp_size _ _) hz2⟩
              · cases h
          · cases h
      · cases h
    · rw [headW_not h4] at h; cases h
  · rw [headF_not h3] at h; cases h

def withDa (o : O) (d : List UInt8) : O := { o with da := d }
noncomputable def bodyS (b : List UInt8) (at_ : Nat) (o : O) (t : ByteArray) : O × Int :=
  if chkB o = true then
    if (o.kind = 3 ∨ o.kind = 8) ∧ largeF t.data.toList = true then
      if printL o = b.take (at_ - t.size) ++ [48, 13, 10, 13, 10] then (zeroO, 413) else (zeroO, 400)
    else if chkB (withDa o (b.drop (at_ + 4))) = true ∧ printL (withDa o (b.drop (at_ + 4))) = b then (withDa o (b.drop (at_ + 4)), 200) else (zeroO, 400)
  else (zeroO, 400)
noncomputable def bodyP (b : List UInt8) (at_ : Nat) : Option (O × ByteArray) → O × Int
  | none => (zeroO, 400)
  | some p => bodyS b at_ p.1 p.2
noncomputable def atP (b : List UInt8) : Int := Lib.index (b.take 65536) CC
noncomputable def parseF (b : List UInt8) : O × Int :=
  if atP b < 0 then (zeroO, if 65536 < b.length then 413 else 400)
  else bodyP b (atP b).toNat (headF (mkB (b.take (atP b).toNat)))
theorem parseF_none {b : List UInt8} (h : atP b < 0) : parseF b = (zeroO, if 65536 < b.length then 413 else 400) := by unfold parseF; rw [if_pos h]
theorem parseF_at {b : List UInt8} {k : Nat} (h : atP b = k) : parseF b = bodyP b k (headF (mkB (b.take k))) := by
  unfold parseF
  rw [if_neg (by omega), h]
  rfl
theorem bodyP_none {b : List UInt8} {k : Nat} : bodyP b k none = (zeroO, 400) := rfl
theorem bodyP_chk {b : List UInt8} {k : Nat} {o : O} {t : ByteArray} (h : chkB o = false) : bodyP b k (some (o, t)) = (zeroO, 400) := by show bodyS b k o t = _; unfold bodyS; rw [if_neg (by rw [h]; simp)]
theorem bodyP_large {b : List UInt8} {k : Nat} {o : O} {t : ByteArray} (h : chkB o = true) (hl : (o.kind = 3 ∨ o.kind = 8) ∧ largeF t.data.toList = true) : bodyP b k (some (o, t)) = if printL o = b.take (k - t.size) ++ [48, 13, 10, 13, 10] then (zeroO, 413) else (zeroO, 400) := by show bodyS b k o t = _; unfold bodyS; rw [if_pos h, if_pos hl]
theorem bodyP_small {b : List UInt8} {k : Nat} {o : O} {t : ByteArray} (h : chkB o = true) (hl : ¬ ((o.kind = 3 ∨ o.kind = 8) ∧ largeF t.data.toList = true)) : bodyP b k (some (o, t)) = if chkB (withDa o (b.drop (k + 4))) = true ∧ printL (withDa o (b.drop (k + 4))) = b then (withDa o (b.drop (k + 4)), 200) else (zeroO, 400) := by show bodyS b k o t = _; unfold bodyS; rw [if_pos h, if_neg hl]
theorem atP_room {b : List UInt8} {k : Nat} (h : atP b = k) : k + 4 ≤ b.length ∧ k + 4 ≤ 65536 := by
  unfold atP at h
  have := Lib.index_room (b.take 65536) CC (by omega)
  rw [h, List.length_take] at this
  have e : CC.length = 4 := rfl
  omega
end Go.Proofs.YtnlooggibopknaaGreatDoor
