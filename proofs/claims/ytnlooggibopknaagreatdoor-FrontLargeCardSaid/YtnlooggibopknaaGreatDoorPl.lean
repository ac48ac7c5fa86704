/- The plain law of front.Parse: what is printed is read; what is read was printed; what is too large. -/
import Derived.Test.YtnlooggibopknaaGreatDoorPq
namespace Go.Proofs.YtnlooggibopknaaGreatDoor
open Go.RowKit

theorem printL_eq (o : O) : printL o = bl (frontB o (decB o.da.length)) ++ (CC ++ o.da) := by
  unfold printL
  rw [headB_front]
  rw [show (frontB o (decB o.da.length) ++ (sEnd ++ sEnd)).data.toList = bl (frontB o (decB o.da.length)) ++ bl (sEnd ++ sEnd) from bl_app _ _, List.append_assoc]
  rfl
theorem dec13 (n : Nat) : (13 : UInt8) ∉ bl (decB n) := dec_no (by decide)
theorem decB_sz19 {n : Nat} (h : n < 10 ^ 19) : (decB n).size ≤ 19 := by show (List.toArray _).size ≤ 19; rw [List.size_toArray]; exact decDigits_len 18 _ h
/-- Where the head of what begins as a request ends. -/
theorem at_of {o : O} {n : Nat} (h : chkB o = true) (hn : n < 10 ^ 19) (rest : List UInt8) : atP (bl (frontB o (decB n)) ++ (CC ++ rest)) = ((frontB o (decB n)).size : Int) := by
  have hs := front_size h (show (decB n).size ≤ 20 from by have := decB_sz19 hn; omega)
  have hl := bl_len (frontB o (decB n))
  unfold atP
  rw [List.take_append, List.take_of_length_le (by omega), List.take_append, List.take_of_length_le (by show 4 ≤ _; omega)]
  exact head_at h (dec13 n) _
theorem take_front {s : ByteArray} {r : List UInt8} {k : Nat} (hk : s.size = k) : mkB ((bl s ++ r).take k) = s := by
  rw [List.take_append, List.take_of_length_le (by rw [bl_len]; omega), bl_len, hk, Nat.sub_self, List.take_zero, List.append_nil]
  exact mkB_of s
theorem drop_front {s : ByteArray} {r : List UInt8} {k : Nat} (hk : s.size = k) : (bl s ++ (CC ++ r)).drop (k + 4) = r := by
  rw [List.drop_append, List.drop_of_length_le (by rw [bl_len]; omega), bl_len, hk, List.nil_append, show k + 4 - k = 4 from by omega]
  rfl
theorem chk_bare {o : O} (h : chkB o = true) : chkB { o with da := [] } = true := by
  unfold chkB at *
  split at h
  · rename_i hk
    rw [if_pos hk]
    simp only [Bool.and_eq_true] at h ⊢
    exact ⟨h.1, rfl⟩
  · rename_i hk
    rw [if_neg hk]
    split at h
    · rename_i hk
      rw [if_pos hk]
      simp only [Bool.and_eq_true] at h ⊢
      exact ⟨h.1, rfl⟩
    · rename_i hk
      rw [if_neg hk]
      split at h
      · rename_i hk
        rw [if_pos hk]
        simp only [Bool.and_eq_true] at h ⊢
        exact ⟨h.1, rfl⟩
      · rename_i hk
        rw [if_neg hk]
        split at h
        · rename_i hk
          rw [if_pos hk]
          simp only [Bool.and_eq_true] at h ⊢
          exact ⟨h.1, rfl⟩
        · rename_i hk
          rw [if_neg hk]
          split at h
          · rename_i hk
            rw [if_pos hk]
            simp only [Bool.and_eq_true] at h ⊢
            exact ⟨h.1, rfl⟩
          · rename_i hk
            rw [if_neg hk]
            split at h
            · rename_i hk
              rw [if_pos hk]
              simp only [Bool.and_eq_true] at h ⊢
              exact ⟨h.1, rfl⟩
            · rename_i hk
              rw [if_neg hk]
              split at h
              · rename_i hk
                rw [if_pos hk]
                simp only [Bool.and_eq_true] at h ⊢
                exact ⟨h.1, rfl⟩
              · cases h
theorem front_bare (o : O) (len : ByteArray) : frontB { o with da := [] } len = frontB o len := rfl
theorem len_lt {o : O} (h : chkB o = true) : o.da.length < 10 ^ 19 := by have := (sm_of_chk h).da; omega
theorem small_len {o : O} (h : chkB o = true) : largeF (decB o.da.length).data.toList = false := by
  cases hl : largeF (decB o.da.length).data.toList with
  | false => rfl
  | true =>
    obtain ⟨n, h1, h2, h3⟩ := largeF_iff.1 hl
    have : n = o.da.length := dec_inj (h3.trans (bl_dec _))
    have := (sm_of_chk h).da
    omega

/-- What is printed is read. -/
theorem parseF_print {o : O} (h : chkB o = true) (hO : OkO o) : parseF (printL o) = (o, 200) := by
  have ha := at_of h (len_lt h) o.da
  rw [← printL_eq] at ha
  rw [parseF_at ha]
  have e1 : mkB ((printL o).take (frontB o (decB o.da.length)).size) = frontB o (decB o.da.length) := by rw [printL_eq]; exact take_front rfl
  have e2 : (printL o).drop ((frontB o (decB o.da.length)).size + 4) = o.da := by rw [printL_eq]; exact drop_front rfl
  have e3 : withDa { o with da := [] } o.da = o := rfl
  rw [e1, head_back h hO (dec13 _), bodyP_small (chk_bare h) (fun hx => by have := hx.2; rw [small_len h] at this; cases this), e2, e3, if_pos ⟨h, rfl⟩]

/-- What is too large to be read. -/
def LargeB (b : List UInt8) : Prop := (65536 < b.length ∧ atP b < 0) ∨ ∃ o n rest, chkB o = true ∧ OkO o ∧ o.da = [] ∧ (o.kind = 3 ∨ o.kind = 8) ∧ 16777216 < n ∧ n < 10 ^ 19 ∧ b = bl (frontB o (decB n)) ++ (CC ++ rest)
/-- A head but for the number behind it. -/
def preB (o : O) : ByteArray := line0 o ++ (sEnd ++ ((sId ++ hexB o.id) ++ (sEnd ++ sLen)))
theorem front_pre (o : O) (len : ByteArray) : frontB o len = preB o ++ len := by
  unfold frontB preB
  simp only [ba_assoc]
theorem print_zero {o : O} (hd : o.da = []) : printL o = bl (preB o) ++ [48, 13, 10, 13, 10] := by
  rw [printL_eq, hd, front_pre, bl_app]
  have e : bl (decB ([] : List UInt8).length) = [48] := by rw [bl_dec, show ([] : List UInt8).length = 0 from rfl, Lib.decDigits]; rfl
  rw [e, List.append_assoc]
  rfl
theorem parseF_large {b : List UInt8} (h : LargeB b) : parseF b = (zeroO, 413) := by
  rcases h with ⟨h1, h2⟩ | ⟨o, n, rest, hc, hO, hd, hk, hn1, hn2, rfl⟩
  · rw [parseF_none h2, if_pos h1]
  · have ha := at_of hc hn2 rest
    rw [parseF_at ha, take_front rfl, head_back hc hO (dec13 _)]
    have e0 : ({ o with da := [] } : O) = o := by rw [← hd]
    rw [e0, bodyP_large hc ⟨hk, largeF_iff.2 ⟨n, hn1, hn2, (bl_dec n).symm⟩⟩]
    refine if_pos ?_
    rw [print_zero hd]
    congr 1
    have hs : (frontB o (decB n)).size - (decB n).size = (preB o).size := by rw [front_pre, ByteArray.size_append]; omega
    rw [hs]
    rw [front_pre, bl_app, List.append_assoc]
    have := take_front (s := preB o) (r := bl (decB n) ++ (CC ++ rest)) rfl
    have := congrArg bl this
    rw [bl_mk] at this
    exact this.symm

/-- The pieces of a text, put together again. -/
def joinB (sep : ByteArray) : List ByteArray → ByteArray
  | [] => ⟨#[]⟩
  | [x] => x
  | x :: y :: r => x ++ (sep ++ joinB sep (y :: r))
theorem joinB_cons (sep x : ByteArray) {l : List ByteArray} (h : l ≠ []) : joinB sep (x :: l) = x ++ (sep ++ joinB sep l) := by
  cases l with
  | nil => exact absurd rfl h
  | cons y r => rfl
theorem splitB_ne (sep : ByteArray) (k : Nat) (s : ByteArray) : Lib.splitB sep 0 k s ≠ [] := by
  cases k with
  | zero => simp [Lib.splitB]
  | succ k => unfold Lib.splitB; split <;> simp
theorem splitB_join (sep : ByteArray) : ∀ (k : Nat) (s : ByteArray), joinB sep (Lib.splitB sep 0 k s) = s
  | 0, s => rfl
  | k + 1, s => by
    rcases Lib.indexB_cases s sep with hm | ⟨i, hi, hr⟩
    · rw [Lib.splitB_miss sep 0 _ s hm]; rfl
    · rw [Lib.splitB_hit sep 0 k s i hi, joinB_cons _ _ (splitB_ne sep k _), splitB_join sep k]
      apply bl_inj
      rw [bl_app, bl_app]
      have h0 : Lib.index (bl s) (bl sep) = i := hi
      rcases Lib.index_spec (bl s) (bl sep) with ⟨h1, _⟩ | ⟨j, h1, h2, h3, _⟩
      · rw [h0] at h1; omega
      · have : j = i := by rw [h0] at h1; omega
        subst this
        unfold Lib.occAt at h3
        obtain ⟨t, ht⟩ := List.isPrefixOf_iff_prefix.1 h3
        have e1 : bl (s.extract 0 (j + 0)) = (bl s).take j := by show (s.extract 0 (j + 0)).data.toList = _; rw [Lib.extract_data]; simp
        have e2 : bl (s.extract (j + sep.size) s.size) = t := by
          show (s.extract _ _).data.toList = _
          rw [Lib.extract_data]
          rw [List.take_of_length_le (by rw [List.length_drop]; have := bl_len s; unfold bl at this; omega)]
          rw [show s.data.toList.drop (j + sep.size) = ((bl s).drop j).drop (bl sep).length from by rw [List.drop_drop, bl_len], ← ht, List.drop_left]
        rw [e1, e2, ht, List.take_append_drop]
theorem spl_join (s sep : ByteArray) : joinB sep (spl s sep) = s := splitB_join sep _ s

/-- What was read as a length stands at the text's end. -/
theorem headF_end {s t : ByteArray} {o : O} (h : headF s = some (o, t)) : ∃ x, s = x ++ t := by
  by_cases h3 : (spl s sEnd).length = 3
  · obtain ⟨l0, l1, l2, h3⟩ := three_of h3
    have hj := spl_join s sEnd
    rw [h3] at hj
    rw [headF_of h3] at h
    by_cases h4 : (spl l0 sSpace).length = 3
    · obtain ⟨a, b, c, h4⟩ := three_of h4
      rw [h4] at h
      unfold headW at h
      simp only at h
      split at h
      · cases h5 : targetF a b with
        | none => rw [h5] at h; cases h
        | some o' =>
          rw [h5, Option.bind_some] at h
          unfold headT at h
          split at h
          · cases h6 : unhexL (tp l1 sId).data.toList with
            | none => rw [h6] at h; cases h
            | some u =>
              rw [h6, Option.bind_some] at h
              split at h
              · rename_i hp2
                cases h
                refine ⟨l0 ++ (sEnd ++ (l1 ++ (sEnd ++ sLen))), ?_⟩
                have e : l2 = sLen ++ tp l2 sLen := hp_is hp2
                rw [← hj]
                show l0 ++ (sEnd ++ (l1 ++ (sEnd ++ l2))) = _
                conv => lhs; rw [e]
                simp only [ba_assoc]
              · cases h
          · cases h
      · cases h
    · rw [headW_not h4] at h; cases h
  · rw [headF_not h3] at h; cases h
/-- Where the mark of a head's end stands, the text is so put together. -/
theorem at_parts {b : List UInt8} {m : Nat} (h : atP b = m) : b = b.take m ++ (CC ++ b.drop (m + 4)) := by
  obtain ⟨h1, h2⟩ := atP_room h
  unfold atP at h
  rcases Lib.index_spec (b.take 65536) CC with ⟨h3, _⟩ | ⟨i, h3, h4, h5, _⟩
  · omega
  · have : i = m := by omega
    subst this
    unfold Lib.occAt at h5
    obtain ⟨t, ht⟩ := List.isPrefixOf_iff_prefix.1 h5
    have e : ((b.drop i).take 4) = CC := by
      have h6 : ((b.take 65536).drop i).take 4 = CC := by rw [← ht]; rfl
      rw [List.drop_take, List.take_take] at h6
      rw [show min 4 (65536 - i) = 4 from by omega] at h6
      exact h6
    conv => lhs; rw [← List.take_append_drop i b, ← List.take_append_drop 4 (b.drop i), e, List.drop_drop]

/-- Whatever is told of bytes: they are no request; they are one; they are too large. -/
theorem parseF_only (b : List UInt8) : parseF b = (zeroO, 400) ∨ (∃ o, chkB o = true ∧ OkO o ∧ printL o = b) ∨ LargeB b := by
  rcases Int.lt_or_le (atP b) 0 with h | h
  · rw [parseF_none h]
    by_cases h65 : 65536 < b.length
    · exact .inr (.inr (.inl ⟨h65, h⟩))
    · rw [if_neg h65]; exact .inl rfl
  · obtain ⟨m, hm⟩ : ∃ m : Nat, atP b = m := ⟨(atP b).toNat, by omega⟩
    obtain ⟨hr1, hr2⟩ := atP_room hm
    rw [parseF_at hm]
    have hms : (mkB (b.take m)).size = m := by show (List.toArray _).size = m; rw [List.size_toArray, List.length_take]; omega
    cases ho : headF (mkB (b.take m)) with
    | none => exact .inl bodyP_none
    | some p =>
      obtain ⟨o, t⟩ := p
      obtain ⟨hrd, hts⟩ := rd_head ho
      cases hc : chkB o with
      | false => exact .inl (bodyP_chk hc)
      | true =>
        by_cases hl : (o.kind = 3 ∨ o.kind = 8) ∧ largeF t.data.toList = true
        · rw [bodyP_large hc hl]
          split
          · rename_i he
            refine .inr (.inr (.inr ?_))
            obtain ⟨n, h1, h2, h3⟩ := largeF_iff.1 hl.2
            have ht : t = decB n := bl_inj (by rw [bl_dec]; exact h3.symm)
            rw [print_zero hrd.da] at he
            have hpre : b.take (m - t.size) = bl (preB o) := (List.append_inj_left' he rfl).symm
            obtain ⟨x, hx⟩ := headF_end ho
            have hx2 : b.take m = bl x ++ bl t := by rw [← bl_app, ← hx, bl_mk]
            have hxs : x.size = m - t.size := by
              have := congrArg ByteArray.size hx
              rw [hms, ByteArray.size_append] at this
              omega
            have hx3 : bl x = bl (preB o) := by
              rw [← hpre]
              have : (b.take m).take (m - t.size) = bl x := by rw [hx2, ← hxs, ← bl_len, List.take_left]
              rw [List.take_take, Nat.min_eq_left (by omega)] at this
              exact this.symm
            refine ⟨o, n, b.drop (m + 4), hc, hrd.ok, hrd.da, hl.1, h1, h2, ?_⟩
            rw [front_pre, bl_app, ← ht, ← hx3, ← hx2]
            exact at_parts hm
          · exact .inl rfl
        · rw [bodyP_small hc hl]
          split
          · rename_i he
            exact .inr (.inl ⟨_, he.1, ⟨hrd.ok.id, hrd.ok.up, hrd.ok.n0, hrd.ok.n1⟩, he.2⟩)
          · exact .inl rfl

theorem parseF_200 {b : List UInt8} (h : (parseF b).2 = 200) : chkB (parseF b).1 = true ∧ OkO (parseF b).1 ∧ printL (parseF b).1 = b := by
  rcases parseF_only b with h1 | ⟨o, hc, hO, rfl⟩ | h1
  · rw [h1] at h; simp at h
  · rw [parseF_print hc hO]; exact ⟨hc, hO, rfl⟩
  · rw [parseF_large h1] at h; simp at h
theorem parseF_not {b : List UInt8} (h : (parseF b).2 ≠ 200) : (parseF b).1 = zeroO ∧ ((parseF b).2 = 400 ∨ (parseF b).2 = 413) := by
  rcases parseF_only b with h1 | ⟨o, hc, hO, rfl⟩ | h1
  · rw [h1]; exact ⟨rfl, .inl rfl⟩
  · rw [parseF_print hc hO] at h; exact absurd rfl h
  · rw [parseF_large h1]; exact ⟨rfl, .inr rfl⟩
/-- Unlike requests are written as unlike bytes. -/
theorem printL_inj {o o' : O} (h : chkB o = true) (hO : OkO o) (h' : chkB o' = true) (hO' : OkO o') (he : printL o = printL o') : o = o' := by
  have h1 := parseF_print h hO
  rw [he, parseF_print h' hO'] at h1
  exact (congrArg Prod.fst h1).symm
/-- No front of a request is one. -/
theorem printL_front {o o' : O} {more : List UInt8} (h : chkB o = true) (hO : OkO o) (h' : chkB o' = true) (hO' : OkO o') (he : printL o = printL o' ++ more) : more = [] := by
  have a1 := at_of h (len_lt h) o.da
  rw [← printL_eq, he, printL_eq o', List.append_assoc, List.append_assoc] at a1
  have a2 := at_of h' (len_lt h') (o'.da ++ more)
  rw [a2] at a1
  have hs : (frontB o' (decB o'.da.length)).size = (frontB o (decB o.da.length)).size := by omega
  have e1 : frontB o (decB o.da.length) = frontB o' (decB o'.da.length) := by
    rw [← take_front (s := frontB o (decB o.da.length)) (r := CC ++ o.da) rfl, ← printL_eq, he, printL_eq o', List.append_assoc, ← hs]
    exact take_front rfl
  have b1 := head_back h hO (dec13 o.da.length)
  rw [e1, head_back h' hO' (dec13 o'.da.length)] at b1
  have b2 : decB o'.da.length = decB o.da.length := congrArg Prod.snd (Option.some.inj b1)
  have b3 : o'.da.length = o.da.length := dec_inj (by rw [← bl_dec, ← bl_dec, b2])
  have b4 := congrArg List.length he
  rw [printL_eq, printL_eq o', List.length_append, List.length_append, List.length_append, List.length_append, List.length_append, bl_len, bl_len] at b4
  exact List.eq_nil_of_length_eq_zero (by omega)
end Go.Proofs.YtnlooggibopknaaGreatDoor
