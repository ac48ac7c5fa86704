/- Cutting texts at the first of a mark, in lists. -/
import Derived.Test.YtnlooggibopknaaGreatDoorNum
import Derived.Lib.CutLaws
import Derived.Test.YtnlooggibopknaaGreatDoorW24
import Derived.Test.YtnlooggibopknaaGreatDoorW18
namespace Go.Proofs.YtnlooggibopknaaGreatDoor
open Go.RowKit

abbrev bl (s : ByteArray) : List UInt8 := s.data.toList
theorem bl_app (a b : ByteArray) : bl (a ++ b) = bl a ++ bl b := by simp [bl, ByteArray.data_append]
theorem bl_inj {a b : ByteArray} (h : bl a = bl b) : a = b := by
  have := congrArg mkB h
  rwa [mkB_of, mkB_of] at this
theorem bl_mk (l : List UInt8) : bl (mkB l) = l := mkB_data l
theorem bl_len (s : ByteArray) : (bl s).length = s.size := Array.length_toList

theorem ix_skip {c : UInt8} {tl : List UInt8} : ∀ (a x : List UInt8), c ∉ a → Lib.index (a ++ x) (c :: tl) = if Lib.index x (c :: tl) == -1 then -1 else Lib.index x (c :: tl) + a.length
  | [], x, _ => by
    simp only [List.nil_append, List.length_nil]
    split
    · rename_i h; exact beq_iff_eq.1 h
    · simp
  | d :: a, x, h => by
    have hd : c ≠ d := fun e => h (by simp [e])
    have ha : c ∉ a := fun e => h (by simp [e])
    have hp : (c :: tl).isPrefixOf (d :: (a ++ x)) = false := by simp [List.isPrefixOf, hd]
    have hg := Lib.index_ge x (c :: tl)
    rw [List.cons_append, Lib.index, hp, ix_skip a x ha]
    by_cases hm : Lib.index x (c :: tl) = -1
    · simp [hm]
    · have h1 : (Lib.index x (c :: tl) == -1) = false := by rw [beq_eq_false_iff_ne]; exact hm
      rw [h1]
      have h2 : (Lib.index x (c :: tl) + (a.length : Int) == -1) = false := by rw [beq_eq_false_iff_ne]; omega
      simp only [Bool.false_eq_true, if_false, h2, List.length_cons]
      omega
theorem ix_hit (sub x : List UInt8) : Lib.index (sub ++ x) sub = 0 :=
  Lib.index_first (i := 0) (Nat.zero_le _) (by simp [Lib.occAt]) (fun _ h => absurd h (Nat.not_lt_zero _))
theorem ix_at {c : UInt8} {tl : List UInt8} (a x : List UInt8) (h : c ∉ a) : Lib.index (a ++ ((c :: tl) ++ x)) (c :: tl) = a.length := by
  rw [ix_skip a _ h, ix_hit]; simp
theorem ix_none {c : UInt8} {tl : List UInt8} : ∀ (a : List UInt8), c ∉ a → Lib.index a (c :: tl) = -1 := fun a h => by
  have := ix_skip (tl := tl) a [] h
  rw [List.append_nil] at this
  rw [this]
  rfl
theorem cut_at {c : UInt8} {tl : List UInt8} (a x : List UInt8) (h : c ∉ a) : Lib.cut (a ++ ((c :: tl) ++ x)) (c :: tl) = (a, x, true) := by
  unfold Lib.cut
  rw [ix_at a x h, if_pos (by omega)]
  simp
theorem cut_not {c : UInt8} {tl : List UInt8} (a : List UInt8) (h : c ∉ a) : Lib.cut a (c :: tl) = (a, [], false) := by
  unfold Lib.cut
  rw [ix_none a h, if_neg (by omega)]
theorem cutO_at {sep : ByteArray} {c : UInt8} {tl : List UInt8} (hs : bl sep = c :: tl) (a x : ByteArray) (h : c ∉ bl a) : cutO (a ++ (sep ++ x)) sep = some (a, x) := by
  have e : Lib.cut (bl (a ++ (sep ++ x))) (bl sep) = (bl a, bl x, true) := by
    rw [bl_app, bl_app, hs]; exact cut_at _ _ h
  unfold cutO
  rw [e]
  simp only [if_true]
  rw [mkB_of, mkB_of]
theorem cutO_not {sep : ByteArray} {c : UInt8} {tl : List UInt8} (hs : bl sep = c :: tl) (a : ByteArray) (h : c ∉ bl a) : cutO a sep = none := by
  have e : Lib.cut (bl a) (bl sep) = (bl a, [], false) := by
    rw [hs]; exact cut_not _ h
  unfold cutO
  rw [e]
  simp

/-- What cutO says of a text: it is put together of the pieces, and the mark does not stand ahead. -/
theorem cutO_is {s sep a b : ByteArray} (h : cutO s sep = some (a, b)) : s = a ++ (sep ++ b) := by
  unfold cutO at h
  split at h
  · rename_i ht
    simp only [Option.some.injEq, Prod.mk.injEq] at h
    obtain ⟨rfl, rfl⟩ := h
    apply bl_inj
    rw [bl_app, bl_app, bl_mk, bl_mk]
    revert ht
    unfold Lib.cut
    split
    · rename_i hi
      intro _
      rcases Lib.index_spec (bl s) (bl sep) with ⟨h1, _⟩ | ⟨i, h1, h2, h3, _⟩
      · have hi' : 0 ≤ Lib.index (bl s) (bl sep) := hi
        omega
      · simp only [show Lib.index s.data.toList sep.data.toList = (i : Int) from h1, Int.toNat_natCast]
        unfold Lib.occAt at h3
        obtain ⟨t, ht⟩ := List.isPrefixOf_iff_prefix.1 h3
        rw [show (bl s).drop (i + (bl sep).length) = ((bl s).drop i).drop (bl sep).length from by rw [List.drop_drop], ← ht, List.drop_left]
        rw [ht, List.take_append_drop]
    · intro h; cases h
  · cases h

theorem spl_list (s sep : ByteArray) : (spl s sep).map bl = Lib.split (bl s) (bl sep) := by
  unfold spl Lib.split
  exact Lib.splitB_data sep 0 _ s
theorem map_bl_inj : ∀ {a b : List ByteArray}, a.map bl = b.map bl → a = b
  | [], [], _ => rfl
  | [], _ :: _, h => by simp at h
  | _ :: _, [], h => by simp at h
  | x :: a, y :: b, h => by
    simp only [List.map_cons, List.cons.injEq] at h
    rw [bl_inj h.1, map_bl_inj h.2]
theorem split_at {c : UInt8} {tl : List UInt8} (a x : List UInt8) (h : c ∉ a) : Lib.split (a ++ ((c :: tl) ++ x)) (c :: tl) = a :: Lib.split x (c :: tl) := by
  have hi := ix_at (tl := tl) a x h
  unfold Lib.split
  rw [Lib.count_hit (by simp) hi, Nat.add_comm, Lib.splitK, hi]
  have h1 : (((a.length : Nat) : Int) == -1) = false := by rw [beq_eq_false_iff_ne]; omega
  simp only [h1, Bool.false_eq_true, if_false, Int.toNat_natCast]
  congr 1
  · simp
  · rw [← List.append_assoc, show a.length + (c :: tl).length = (a ++ (c :: tl)).length from by simp, List.drop_left]
theorem split_not {c : UInt8} {tl : List UInt8} (a : List UInt8) (h : c ∉ a) : Lib.split a (c :: tl) = [a] := by
  unfold Lib.split
  rw [Lib.count_miss (ix_none a h)]
  rfl
theorem spl_at {sep : ByteArray} {c : UInt8} {tl : List UInt8} (hs : bl sep = c :: tl) (a x : ByteArray) (h : c ∉ bl a) : spl (a ++ (sep ++ x)) sep = a :: spl x sep := by
  apply map_bl_inj
  rw [spl_list, List.map_cons, spl_list, bl_app, bl_app, hs]
  exact split_at _ _ h
theorem spl_not {sep : ByteArray} {c : UInt8} {tl : List UInt8} (hs : bl sep = c :: tl) (a : ByteArray) (h : c ∉ bl a) : spl a sep = [a] := by
  apply map_bl_inj
  rw [spl_list, hs, split_not _ h]
  rfl

theorem hp_at (p x : ByteArray) : hp (p ++ x) p = true := by
  unfold hp
  rw [show (p ++ x).data.toList = bl p ++ bl x from bl_app p x]
  simp [Lib.hasPrefix]
theorem tp_at (p x : ByteArray) : tp (p ++ x) p = x := by
  unfold tp Lib.trimPrefix
  have := hp_at p x
  unfold hp at this
  rw [if_pos this]
  rw [show (p ++ x).data.toList = bl p ++ bl x from bl_app p x]
  rw [show p.data.toList = bl p from rfl, List.drop_left]
theorem hp_is {s p : ByteArray} (h : hp s p = true) : s = p ++ tp s p := by
  unfold hp Lib.hasPrefix at h
  obtain ⟨t, ht⟩ := List.isPrefixOf_iff_prefix.1 h
  have e : s = p ++ mkB t := bl_inj (by rw [bl_app, bl_mk]; exact ht.symm)
  rw [e, tp_at]
theorem hp_no {c d : UInt8} {p s : ByteArray} {t u : List UInt8} (hp1 : bl p = c :: t) (hs : bl s = d :: u) (h : c ≠ d) : hp s p = false := by
  unfold hp Lib.hasPrefix
  rw [show p.data.toList = c :: t from hp1, show s.data.toList = d :: u from hs]
  simp [List.isPrefixOf, h]
end Go.Proofs.YtnlooggibopknaaGreatDoor

/- Which bytes the parts of a request have; a printed request is read back: plain. -/
namespace Go.Proofs.YtnlooggibopknaaGreatDoor
open Go.RowKit

theorem ba_assoc (a b c : ByteArray) : a ++ b ++ c = a ++ (b ++ c) := bl_inj (by simp only [bl_app, List.append_assoc])
theorem ba_nil (a : ByteArray) : (⟨#[]⟩ : ByteArray) ++ a = a := bl_inj (by rw [bl_app]; rfl)
theorem ba_nilR (a : ByteArray) : a ++ (⟨#[]⟩ : ByteArray) = a := bl_inj (by rw [bl_app]; exact List.append_nil _)
theorem bl_dec (n : Nat) : bl (decB n) = Lib.decDigits n := mkB_data _
theorem bl_esc (s : ByteArray) : bl (escB s) = escL (bl s) := mkB_data _
theorem bl_hex (u : Nat) : bl (hexB u) = hexL u := mkB_data _
theorem itoaB_nat (n : Int) (h : 0 ≤ n) : itoaB n = decB n.toNat := by
  have := itoa_dec n.toNat
  rwa [show ((n.toNat : Nat) : Int) = n from by omega] at this

theorem dec_ch {n : Nat} {c : UInt8} (h : c ∈ bl (decB n)) : 48 ≤ c.toNat ∧ c.toNat ≤ 57 := by rw [bl_dec] at h; exact dec_dig n c h
theorem hexd_ch : ∀ q : Fin 16, 48 ≤ (UInt8.ofNat (digN q.val 97).toNat).toNat := by decide
theorem hex_ch {u : Nat} {c : UInt8} (h : c ∈ bl (hexB u)) : 48 ≤ c.toNat := by
  rw [bl_hex] at h
  unfold hexL at h
  obtain ⟨t, _, rfl⟩ := List.mem_map.1 h
  exact hexd_ch ⟨u / 16 ^ (15 - t) % 16, Nat.mod_lt _ (by decide)⟩
theorem escd_ch : ∀ q : Fin 16, keptN (UInt8.ofNat (digN q.val 65).toNat).toNat = true := by decide
theorem esc_ch {s : ByteArray} {c : UInt8} (h : c ∈ bl (escB s)) : keptN c.toNat = true ∨ c = 37 := by
  rw [bl_esc] at h
  obtain ⟨d, _, hd⟩ := List.mem_flatMap.1 h
  rcases escC_cases d with ⟨k, e⟩ | ⟨q, r, _, e⟩ <;> rw [e] at hd <;> simp only [List.mem_cons, List.not_mem_nil, or_false] at hd
  · exact .inl (hd ▸ k)
  · rcases hd with rfl | rfl | rfl
    · exact .inr rfl
    · exact .inl (escd_ch q)
    · exact .inl (escd_ch r)
theorem esc_no {s : ByteArray} {c : UInt8} (h1 : keptN c.toNat = false) (h2 : c ≠ 37) : c ∉ bl (escB s) := fun h => by
  rcases esc_ch h with e | e
  · rw [h1] at e; cases e
  · exact h2 e
theorem name_no {s : ByteArray} {c : UInt8} (hn : nameB s = true) (h1 : nameN c.toNat = false) : c ∉ bl s := fun h => by
  unfold nameB at hn
  simp only [Bool.and_eq_true, List.all_eq_true] at hn
  have := hn.2 c h
  rw [h1] at this; cases this
theorem dec_no {n : Nat} {c : UInt8} (h : c.toNat < 48) : c ∉ bl (decB n) := fun e => by have := dec_ch e; omega
theorem hex_no {n : Nat} {c : UInt8} (h : c.toNat < 48) : c ∉ bl (hexB n) := fun e => by have := hex_ch e; omega

theorem part_ex {p x y : Prop} (h : p ∧ x ∧ y) : p := h.1

/-- The right ops, kind by kind. -/
inductive Rt (o : O) : Prop
  | bucket (hk : o.kind = 1 ∨ o.kind = 2) (h : nameB o.bu = true) (e : o = ⟨o.id, o.kind, o.bu, ⟨#[]⟩, ⟨#[]⟩, 0, 0, [], []⟩)
  | key (hk : o.kind = 3 ∨ o.kind = 4 ∨ o.kind = 5 ∨ o.kind = 7) (h : nameB o.bu = true) (h1 : 1 ≤ o.ke.size) (h2 : o.ke.size ≤ 1024) (h3 : o.kind = 3 ∨ o.da = []) (h4 : o.da.length ≤ 16777216) (e : o = ⟨o.id, o.kind, o.bu, o.ke, ⟨#[]⟩, 0, 0, [], o.da⟩)
  | list (hk : o.kind = 6) (h : nameB o.bu = true) (h2 : o.ke.size ≤ 1024) (h3 : o.af.size ≤ 1024) (h4 : 1 ≤ o.n) (h5 : o.n ≤ 1000) (e : o = ⟨o.id, 6, o.bu, o.ke, o.af, o.n, 0, [], []⟩)
  | part (hk : o.kind = 8) (h1 : 1 ≤ o.n) (h2 : o.n ≤ 10000) (h4 : o.da.length ≤ 16777216) (e : o = ⟨o.id, 8, ⟨#[]⟩, ⟨#[]⟩, ⟨#[]⟩, o.n, o.up, [], o.da⟩)
  | parts (hk : o.kind = 9) (h : risesB o.ps = true) (e : o = ⟨o.id, 9, ⟨#[]⟩, ⟨#[]⟩, ⟨#[]⟩, 0, o.up, o.ps, []⟩)
  | abort (hk : o.kind = 10) (e : o = ⟨o.id, 10, ⟨#[]⟩, ⟨#[]⟩, ⟨#[]⟩, 0, o.up, [], []⟩)

theorem rt_of {o : O} (h : chkB o = true) : Rt o := by
  unfold chkB at h
  obtain ⟨id, kind, bu, ke, af, n, up, ps, da⟩ := o
  simp only at h
  split at h
  · rename_i hk
    simp only [Bool.and_eq_true, beq_iff_eq] at h
    obtain ⟨⟨⟨⟨⟨⟨h1, h2⟩, h3⟩, h4⟩, h5⟩, h6⟩, h7⟩ := h
    refine .bucket hk h1 ?_
    rw [size_zero h2, size_zero h3, h4, h5, List.eq_nil_of_length_eq_zero h6, List.eq_nil_of_length_eq_zero h7]
  · split at h
    · rename_i hk
      subst hk
      simp only [Bool.and_eq_true, beq_iff_eq, longB, decide_eq_true_eq] at h
      obtain ⟨⟨⟨⟨⟨⟨h1, h2⟩, h3⟩, h4⟩, h5⟩, h6⟩, h7⟩ := h
      refine .key (.inl rfl) h1 (by show 1 ≤ ke.size; omega) (by show ke.size ≤ 1024; omega) (.inl rfl) (by exact h7) ?_
      rw [size_zero h3, h4, h5, List.eq_nil_of_length_eq_zero h6]
    · split at h
      · rename_i hk
        simp only [Bool.and_eq_true, beq_iff_eq, longB, decide_eq_true_eq] at h
        obtain ⟨⟨⟨⟨⟨⟨h1, h2⟩, h3⟩, h4⟩, h5⟩, h6⟩, h7⟩ := h
        refine .key (.inr (by simpa using hk)) h1 (by show 1 ≤ ke.size; omega) (by show ke.size ≤ 1024; omega) (.inr (List.eq_nil_of_length_eq_zero h7)) (by show da.length ≤ _; omega) ?_
        rw [size_zero h3, h4, h5, List.eq_nil_of_length_eq_zero h6]
      · split at h
        · rename_i hk
          subst hk
          simp only [Bool.and_eq_true, beq_iff_eq, longB, decide_eq_true_eq] at h
          obtain ⟨⟨⟨⟨⟨⟨h1, h2⟩, h3⟩, h4⟩, h5⟩, h6⟩, h7⟩ := h
          refine .list rfl h1 (by show ke.size ≤ 1024; omega) (by show af.size ≤ 1024; omega) h4.1 h4.2 ?_
          rw [h5, List.eq_nil_of_length_eq_zero h6, List.eq_nil_of_length_eq_zero h7]
        · split at h
          · rename_i hk
            subst hk
            simp only [Bool.and_eq_true, beq_iff_eq, longB, decide_eq_true_eq] at h
            obtain ⟨⟨⟨⟨⟨h1, h2⟩, h3⟩, h4⟩, h6⟩, h7⟩ := h
            refine .part rfl h4.1 h4.2 h7 ?_
            rw [size_zero h1, size_zero h2, size_zero h3, List.eq_nil_of_length_eq_zero h6]
          · split at h
            · rename_i hk
              subst hk
              simp only [Bool.and_eq_true, beq_iff_eq] at h
              obtain ⟨⟨⟨⟨⟨h1, h2⟩, h3⟩, h4⟩, h6⟩, h7⟩ := h
              refine .parts rfl h6 ?_
              rw [size_zero h1, size_zero h2, size_zero h3, h4, List.eq_nil_of_length_eq_zero h7]
            · split at h
              · rename_i hk
                subst hk
                simp only [Bool.and_eq_true, beq_iff_eq] at h
                obtain ⟨⟨⟨⟨⟨h1, h2⟩, h3⟩, h4⟩, h6⟩, h7⟩ := h
                refine .abort rfl ?_
                rw [size_zero h1, size_zero h2, size_zero h3, h4, List.eq_nil_of_length_eq_zero h6, List.eq_nil_of_length_eq_zero h7]
              · cases h

theorem bSlash : bl sSlash = [47] := rfl
theorem bPrefix : bl sPrefix = 63 :: [112, 114, 101, 102, 105, 120, 61] := rfl
theorem bAfter : bl sAfter = 38 :: [97, 102, 116, 101, 114, 61] := rfl
theorem bN : bl sN = 38 :: [110, 61] := rfl
theorem bSpace : bl sSpace = [32] := rfl
theorem bEnd : bl sEnd = 13 :: [10] := rfl
theorem bComma : bl sComma = 44 :: [] := rfl
theorem bUp : bl sUpload = 47 :: 63 :: [117, 112, 108, 111, 97, 100, 61] := rfl

theorem hp_up_no (x : ByteArray) (h : 63 ∉ bl x) : hp (sSlash ++ x) sUpload = false := by
  unfold hp Lib.hasPrefix
  rw [show (sSlash ++ x).data.toList = [47] ++ bl x from bl_app sSlash x, show sUpload.data.toList = 47 :: 63 :: [117, 112, 108, 111, 97, 100, 61] from rfl]
  cases hx : bl x with
  | nil => rfl
  | cons c t =>
    have hc : (63 : UInt8) ≠ c := fun e => h (by rw [hx]; simp [e])
    simp [List.isPrefixOf, hc]
theorem contains_no {a : ByteArray} (h : 63 ∉ bl a) : Lib.contains (bl a) (bl sQ) = false := by
  unfold Lib.contains
  rw [show bl sQ = 63 :: [] from rfl, ix_none _ h]
  rfl
theorem unesc_esc (s : ByteArray) : unescL (bl (escB s)) = some (bl s) := by rw [bl_esc]; exact unescL_some rfl
theorem numF_itoa {n : Int} (h0 : 0 ≤ n) (h1 : n ≤ 9223372036854775807) : numF (bl (itoaB n)) = some n.toNat := by
  rw [itoaB_nat n h0, bl_dec]
  exact numF_iff.2 ⟨by omega, rfl⟩
theorem unhex_hex {u : Nat} (h : u < 2 ^ 64) : unhexL (bl (hexB u)) = some u := by rw [bl_hex]; exact unhexL_some h rfl

theorem up_take (u : Nat) (x : ByteArray) (h : 1 ≤ x.size) : upId (hexB u ++ x) = hexB u ∧ upRest (hexB u ++ x) = x := by
  have hs := hexB_size u
  have hz : 16 < (hexB u ++ x).size := by rw [ByteArray.size_append]; omega
  have hl : (bl (hexB u)).length = 16 := by rw [bl_len]; exact hs
  unfold upId upRest
  rw [if_pos hz, if_pos hz]
  constructor
  · apply bl_inj
    show ((hexB u ++ x).extract 0 16).data.toList = _
    rw [Lib.extract_data, show (hexB u ++ x).data.toList = bl (hexB u) ++ bl x from bl_app _ _, List.drop_zero, ← hl]
    simp
  · apply bl_inj
    show ((hexB u ++ x).extract 16 _).data.toList = _
    rw [Lib.extract_data, show (hexB u ++ x).data.toList = bl (hexB u) ++ bl x from bl_app _ _, ByteArray.size_append, hs]
    rw [List.drop_append, List.drop_of_length_le (by omega), hl, List.nil_append, Nat.sub_self, List.drop_zero]
    apply List.take_of_length_le
    rw [bl_len]; omega
theorem up_bare (u : Nat) : upId (hexB u) = hexB u ∧ upRest (hexB u) = ⟨#[]⟩ := by
  have hs := hexB_size u
  unfold upId upRest
  rw [if_neg (by omega), if_neg (by omega)]
  exact ⟨rfl, rfl⟩

theorem split_join : ∀ (xs : List (List UInt8)), xs ≠ [] → (∀ x ∈ xs, (44 : UInt8) ∉ x) → Lib.split (Lib.join xs [44]) [44] = xs
  | [], h, _ => absurd rfl h
  | [x], _, h => by rw [Lib.join_one]; exact split_not _ (h x (by simp))
  | x :: y :: r, _, h => by
    have ih := split_join (y :: r) (by simp) (fun z hz => h z (by simp [List.mem_cons] at hz ⊢; exact .inr hz))
    have e : Lib.join (x :: y :: r) [44] = x ++ ([44] ++ Lib.join (y :: r) [44]) := by simp [Lib.join, List.intercalate, List.intersperse]
    rw [e, split_at x _ (h x (by simp)), ih]
theorem spl_comma (ps : List Int) (h : ps ≠ []) (h0 : ∀ p ∈ ps, 0 ≤ p) : spl (commaB ps) sComma = ps.map itoaB := by
  apply map_bl_inj
  rw [spl_list, bComma, show bl (commaB ps) = Lib.join (ps.map Lib.itoa) [44] from mkB_data _]
  rw [split_join _ (by simpa using h) (fun x hx => by
    obtain ⟨p, hp, rfl⟩ := List.mem_map.1 hx
    have hp0 := h0 p hp
    have e : Lib.itoa p = bl (decB p.toNat) := by rw [← itoaB_nat p hp0]; exact (mkB_data _).symm
    rw [e]
    exact dec_no (by decide))]
  rw [List.map_map]
  apply List.map_congr_left
  intro p _
  exact (mkB_data _).symm
theorem numsF_itoa (ps : List Int) (h0 : ∀ p ∈ ps, 0 ≤ p ∧ p ≤ 9223372036854775807) : numsF (ps.map itoaB) = some (ps.map Int.toNat) := by
  rw [numsF_iff, List.map_map, List.map_map]
  apply List.map_congr_left
  intro p hp
  have := h0 p hp
  exact numF_itoa this.1 this.2
theorem ints_back (ps : List Int) (h0 : ∀ p ∈ ps, 0 ≤ p) : ints (ps.map Int.toNat) = ps := by
  unfold ints
  rw [List.map_map]
  conv => rhs; rw [← List.map_id ps]
  apply List.map_congr_left
  intro p hp
  have := h0 p hp
  show ((p.toNat : Nat) : Int) = p
  omega

def bareO (o : O) : O := { o with id := 0, da := [] }

/-- What is printed as a target is read back. -/
theorem target_back {o : O} (h : chkB o = true) (hO : OkO o) : targetF (methodB o.kind) (targetB o) = some (bareO o) := by
  cases rt_of h with
  | bucket hk hn e =>
    have ht : targetB o = sSlash ++ o.bu := by unfold targetB; rw [if_pos hk]
    have h47 : (47 : UInt8) ∉ bl o.bu := name_no hn (by decide)
    have h63 : (63 : UInt8) ∉ bl o.bu := name_no hn (by decide)
    rw [ht]
    unfold targetF
    rw [hp_up_no _ h63]
    simp only [Bool.false_eq_true, if_false]
    rw [show sSlash ++ o.bu = ⟨#[]⟩ ++ (sSlash ++ o.bu) from (ba_nil _).symm, cutO_at bSlash _ _ (by simp [bl])]
    show slashF _ o.bu = _
    unfold slashF
    rw [cutO_not bSlash _ h47]
    simp only
    unfold plainF
    rw [cutO_not bPrefix _ h63]
    simp only
    congr 1
    unfold opBucket bareO
    rw [e]
    simp only
    rcases hk with hk | hk <;> rw [hk] <;> rfl
  | key hk hn h1 h2 h3 h4 e =>
    have ht : targetB o = sSlash ++ o.bu ++ sSlash ++ escB o.ke := by unfold targetB; rw [if_neg (by omega), if_neg (by omega), if_neg (by omega), if_neg (by omega), if_neg (by omega)]
    have h47 : (47 : UInt8) ∉ bl o.bu := name_no hn (by decide)
    have h63 : (63 : UInt8) ∉ bl o.bu := name_no hn (by decide)
    have h63e : (63 : UInt8) ∉ bl (escB o.ke) := esc_no (by decide) (by decide)
    rw [ht, ba_assoc, ba_assoc]
    unfold targetF
    rw [hp_up_no _ (by rw [bl_app, bl_app]; simp only [List.mem_append, not_or]; exact ⟨h63, by decide, h63e⟩)]
    simp only [Bool.false_eq_true, if_false]
    rw [← ba_nil (sSlash ++ (o.bu ++ (sSlash ++ escB o.ke))), cutO_at bSlash _ _ (by simp [bl])]
    show slashF _ (o.bu ++ (sSlash ++ escB o.ke)) = _
    unfold slashF
    rw [cutO_at bSlash _ _ h47]
    simp only
    rw [show Lib.contains o.bu.data.toList sQ.data.toList = false from contains_no h63]
    simp only [Bool.false_eq_true, if_false]
    unfold keyedF
    rw [show unescL (escB o.ke).data.toList = some (bl o.ke) from unesc_esc _]
    simp only [Option.map_some]
    congr 1
    unfold opKey bareO
    rw [e]
    simp only
    rw [mkB_of]
    rcases hk with hk | hk | hk | hk <;> rw [hk] <;> rfl
  | list hk hn h2 h3 h4 h5 e =>
    have ht : targetB o = sSlash ++ o.bu ++ sPrefix ++ escB o.ke ++ sAfter ++ escB o.af ++ sN ++ itoaB o.n := by unfold targetB; rw [if_neg (by omega), if_pos hk]
    have h47 : (47 : UInt8) ∉ bl o.bu := name_no hn (by decide)
    have h63 : (63 : UInt8) ∉ bl o.bu := name_no hn (by decide)
    have hi : itoaB o.n = decB o.n.toNat := itoaB_nat _ (by omega)
    have e1 : targetB o = sSlash ++ (o.bu ++ (sPrefix ++ (escB o.ke ++ (sAfter ++ (escB o.af ++ (sN ++ itoaB o.n)))))) := by rw [ht]; simp only [ba_assoc]
    have h47w : (47 : UInt8) ∉ bl (o.bu ++ (sPrefix ++ (escB o.ke ++ (sAfter ++ (escB o.af ++ (sN ++ itoaB o.n)))))) := by
      simp only [bl_app, List.mem_append, not_or]
      exact ⟨h47, by decide, esc_no (by decide) (by decide), by decide, esc_no (by decide) (by decide), by decide, by rw [hi]; exact dec_no (by decide)⟩
    have hup : hp (targetB o) sUpload = false := by
      rw [e1]
      unfold hp Lib.hasPrefix
      rw [show (sSlash ++ (o.bu ++ (sPrefix ++ (escB o.ke ++ (sAfter ++ (escB o.af ++ (sN ++ itoaB o.n))))))).data.toList = 47 :: (bl o.bu ++ bl (sPrefix ++ (escB o.ke ++ (sAfter ++ (escB o.af ++ (sN ++ itoaB o.n)))))) from by
        show bl _ = _
        rw [bl_app, bl_app]; rfl]
      rw [show sUpload.data.toList = 47 :: 63 :: [117, 112, 108, 111, 97, 100, 61] from rfl]
      have h1 := (nameB_size hn).1
      cases hx : bl o.bu with
      | nil => have := bl_len o.bu; rw [hx] at this; simp at this; omega
      | cons c t =>
        have hc : (63 : UInt8) ≠ c := fun e => h63 (by rw [hx]; simp [e])
        simp [List.isPrefixOf, hc]
    unfold targetF
    rw [hup]
    simp only [Bool.false_eq_true, if_false]
    rw [e1, ← ba_nil (sSlash ++ _), cutO_at bSlash _ _ (by simp [bl])]
    show slashF _ (o.bu ++ _) = _
    unfold slashF
    rw [cutO_not bSlash _ h47w]
    simp only
    unfold plainF
    rw [cutO_at bPrefix _ _ h63]
    simp only
    unfold listF
    rw [cutO_at bAfter _ _ (esc_no (by decide) (by decide))]
    simp only [Option.bind_some]
    rw [cutO_at bN _ _ (esc_no (by decide) (by decide))]
    simp only [Option.bind_some]
    rw [show unescL (escB o.ke).data.toList = some (bl o.ke) from unesc_esc _, show unescL (escB o.af).data.toList = some (bl o.af) from unesc_esc _, show numF (itoaB o.n).data.toList = some o.n.toNat from numF_itoa (by omega) (by omega)]
    simp only [Option.bind_some, Option.map_some]
    congr 1
    unfold opList bareO
    rw [e]
    simp only
    rw [mkB_of, mkB_of, show ((o.n.toNat : Nat) : Int) = o.n from by omega]
  | part hk h1 h2 h4 e =>
    have ht : targetB o = sUpload ++ (hexB o.up ++ (sPart ++ itoaB o.n)) := by unfold targetB; rw [if_neg (by omega), if_neg (by omega), if_pos hk]; simp only [ba_assoc]
    obtain ⟨u1, u2⟩ := up_take o.up (sPart ++ itoaB o.n) (by rw [ByteArray.size_append]; have : sPart.size = 6 := rfl; omega)
    rw [ht]
    unfold targetF
    rw [hp_at, tp_at]
    simp only [if_true]
    unfold uploadF
    rw [u1, u2, show unhexL (hexB o.up).data.toList = some o.up from unhex_hex hO.up]
    simp only [Option.bind_some]
    unfold uploadU
    rw [if_pos ⟨hp_at _ _, by rw [hk]; rfl⟩, tp_at, show numF (itoaB o.n).data.toList = some o.n.toNat from numF_itoa (by omega) (by omega)]
    simp only [Option.map_some]
    congr 1
    unfold opPart bareO
    rw [e]
    simp only
    rw [show ((o.n.toNat : Nat) : Int) = o.n from by omega]
  | parts hk hr e =>
    obtain ⟨r1, r2, r3⟩ := rises_mem hr
    have ht : targetB o = sUpload ++ (hexB o.up ++ (sParts ++ commaB o.ps)) := by unfold targetB; rw [if_neg (by omega), if_neg (by omega), if_neg (by omega), if_pos hk]; simp only [ba_assoc]
    obtain ⟨u1, u2⟩ := up_take o.up (sParts ++ commaB o.ps) (by rw [ByteArray.size_append]; have : sParts.size = 7 := rfl; omega)
    rw [ht]
    unfold targetF
    rw [hp_at, tp_at]
    simp only [if_true]
    unfold uploadF
    rw [u1, u2, show unhexL (hexB o.up).data.toList = some o.up from unhex_hex hO.up]
    simp only [Option.bind_some]
    unfold uploadU
    rw [if_neg (by rw [parts_not_part (hp_at _ _)]; simp), if_pos ⟨hp_at _ _, by rw [hk]; rfl⟩, tp_at]
    rw [spl_comma _ (by intro e; rw [e] at r1; simp at r1) (fun p hp => by have := r3 p hp; omega), numsF_itoa _ (fun p hp => by have := r3 p hp; omega)]
    simp only [Option.map_some]
    congr 1
    unfold opParts bareO
    rw [ints_back _ (fun p hp => by have := r3 p hp; omega)]
    rw [e]
  | abort hk e =>
    have ht : targetB o = sUpload ++ hexB o.up := by unfold targetB; rw [if_neg (by omega), if_neg (by omega), if_neg (by omega), if_neg (by omega), if_pos hk]
    obtain ⟨u1, u2⟩ := up_bare o.up
    rw [ht]
    unfold targetF
    rw [hp_at, tp_at]
    simp only [if_true]
    unfold uploadF
    rw [u1, u2, show unhexL (hexB o.up).data.toList = some o.up from unhex_hex hO.up]
    simp only [Option.bind_some]
    unfold uploadU
    rw [if_neg (by rintro ⟨h, _⟩; cases h), if_neg (by rintro ⟨h, _⟩; cases h), if_pos ⟨rfl, by rw [hk]; rfl⟩]
    congr 1
    unfold opAbort bareO
    rw [e]
end Go.Proofs.YtnlooggibopknaaGreatDoor

/- A printed head is read back; where it ends; how long it is: plain. -/
namespace Go.Proofs.YtnlooggibopknaaGreatDoor
open Go.RowKit

def line0 (o : O) : ByteArray := methodB o.kind ++ (sSpace ++ (targetB o ++ (sSpace ++ sVer)))
/-- A request's head but for the two line ends behind it. -/
def frontB (o : O) (len : ByteArray) : ByteArray := line0 o ++ (sEnd ++ ((sId ++ hexB o.id) ++ (sEnd ++ (sLen ++ len))))
theorem headB_front (o : O) (len : ByteArray) : headB o len = frontB o len ++ (sEnd ++ sEnd) := by
  unfold headB frontB line0
  simp only [ba_assoc]

theorem mem_join {c : UInt8} {sep : List UInt8} : ∀ {xs : List (List UInt8)}, c ∈ Lib.join xs sep → c ∈ sep ∨ ∃ x ∈ xs, c ∈ x
  | [], h => by simp [Lib.join_nil] at h
  | [x], h => by rw [Lib.join_one] at h; exact .inr ⟨x, by simp, h⟩
  | x :: y :: r, h => by
    have e : Lib.join (x :: y :: r) sep = x ++ sep ++ Lib.join (y :: r) sep := by simp [Lib.join, List.intercalate, List.intersperse]
    rw [e, List.mem_append, List.mem_append] at h
    rcases h with (h | h) | h
    · exact .inr ⟨x, by simp, h⟩
    · exact .inl h
    · rcases mem_join (xs := y :: r) h with h | ⟨z, hz, h⟩
      · exact .inl h
      · exact .inr ⟨z, by simp [List.mem_cons] at hz ⊢; exact .inr hz, h⟩
theorem itoa_ch {n : Int} (h : 0 ≤ n) {c : UInt8} (hc : c ∈ bl (itoaB n)) : 48 ≤ c.toNat := by
  rw [itoaB_nat n h] at hc
  exact (dec_ch hc).1
theorem comma_ch {ps : List Int} (h : ∀ p ∈ ps, 0 ≤ p) {c : UInt8} (hc : c ∈ bl (commaB ps)) : 44 ≤ c.toNat := by
  rw [show bl (commaB ps) = Lib.join (ps.map Lib.itoa) [44] from mkB_data _] at hc
  rcases mem_join hc with h1 | ⟨x, hx, h1⟩
  · simp only [List.mem_singleton] at h1
    rw [h1]; decide
  · obtain ⟨p, hp, rfl⟩ := List.mem_map.1 hx
    have := itoa_ch (h p hp) (c := c) (by rw [show bl (itoaB p) = Lib.itoa p from mkB_data _]; exact h1)
    omega
theorem name_ch {s : ByteArray} (hn : nameB s = true) {c : UInt8} (hc : c ∈ bl s) : 45 ≤ c.toNat := by
  unfold nameB at hn
  simp only [Bool.and_eq_true, List.all_eq_true] at hn
  have := hn.2 c hc
  unfold nameN at this
  simp only [Bool.or_eq_true, Bool.and_eq_true, decide_eq_true_eq, beq_iff_eq] at this
  omega
theorem kept_ge {c : Int} (h : keptN c = true) : 45 ≤ c := by
  unfold keptN at h
  simp only [Bool.or_eq_true, Bool.and_eq_true, decide_eq_true_eq, beq_iff_eq] at h
  omega
theorem esc_ge {s : ByteArray} {c : UInt8} (hc : c ∈ bl (escB s)) : 37 ≤ c.toNat := by
  rcases esc_ch hc with h | rfl
  · have := kept_ge h; omega
  · decide
theorem all_of {l : List UInt8} (h : l.all (fun c => decide (33 ≤ c.toNat)) = true) {c : UInt8} (hc : c ∈ l) : 33 ≤ c.toNat := by
  rw [List.all_eq_true] at h
  exact of_decide_eq_true (h c hc)

/-- No byte of a target is a space or a line's end. -/
theorem target_ch {o : O} (h : chkB o = true) {c : UInt8} (hc : c ∈ bl (targetB o)) : 33 ≤ c.toNat := by
  have hS := sm_of_chk h
  unfold targetB at hc
  split at hc
  · rename_i hk
    simp only [bl_app, List.mem_append] at hc
    cases rt_of h with
    | bucket _ hn _ =>
      rcases hc with hc | hc
      · exact all_of (l := bl sSlash) (by decide) hc
      · have := name_ch hn hc; omega
    | key hk2 => omega
    | list hk2 => omega
    | part hk2 => omega
    | parts hk2 => omega
    | abort hk2 => omega
  · split at hc
    · rename_i hk
      simp only [bl_app, List.mem_append] at hc
      cases rt_of h with
      | list _ hn _ =>
        rcases hc with (((((((hc | hc) | hc) | hc) | hc) | hc) | hc) | hc)
        · exact all_of (l := bl sSlash) (by decide) hc
        · have := name_ch hn hc; omega
        · exact all_of (l := bl sPrefix) (by decide) hc
        · have := esc_ge hc; omega
        · exact all_of (l := bl sAfter) (by decide) hc
        · have := esc_ge hc; omega
        · exact all_of (l := bl sN) (by decide) hc
        · have := itoa_ch hS.n0 hc; omega
      | bucket hk2 => omega
      | key hk2 => omega
      | part hk2 => omega
      | parts hk2 => omega
      | abort hk2 => omega
    · split at hc
      · simp only [bl_app, List.mem_append] at hc
        rcases hc with ((hc | hc) | hc) | hc
        · exact all_of (l := bl sUpload) (by decide) hc
        · have := hex_ch hc; omega
        · exact all_of (l := bl sPart) (by decide) hc
        · have := itoa_ch hS.n0 hc; omega
      · split at hc
        · simp only [bl_app, List.mem_append] at hc
          rcases hc with ((hc | hc) | hc) | hc
          · exact all_of (l := bl sUpload) (by decide) hc
          · have := hex_ch hc; omega
          · exact all_of (l := bl sParts) (by decide) hc
          · have := comma_ch (fun p hp => by have := hS.pe p hp; omega) hc; omega
        · split at hc
          · simp only [bl_app, List.mem_append] at hc
            rcases hc with hc | hc
            · exact all_of (l := bl sUpload) (by decide) hc
            · have := hex_ch hc; omega
          · simp only [bl_app, List.mem_append] at hc
            cases rt_of h with
            | key _ hn _ =>
              rcases hc with ((hc | hc) | hc) | hc
              · exact all_of (l := bl sSlash) (by decide) hc
              · have := name_ch hn hc; omega
              · exact all_of (l := bl sSlash) (by decide) hc
              · have := esc_ge hc; omega
            | bucket hk2 => omega
            | list hk2 => omega
            | part hk2 => omega
            | parts hk2 => omega
            | abort hk2 => omega
theorem method_ch {k : Int} {c : UInt8} (hc : c ∈ bl (methodB k)) : 33 ≤ c.toNat := by
  unfold methodB at hc
  split at hc
  · exact all_of (l := bl bPUT) (by decide) hc
  · split at hc
    · exact all_of (l := bl bDELETE) (by decide) hc
    · split at hc
      · exact all_of (l := bl bPOST) (by decide) hc
      · exact all_of (l := bl bGET) (by decide) hc

theorem line0_no {o : O} (h : chkB o = true) : (13 : UInt8) ∉ bl (line0 o) := by
  unfold line0
  simp only [bl_app, List.mem_append, not_or]
  exact ⟨fun e => by have := method_ch e; revert this; decide, by decide, fun e => by have := target_ch h e; revert this; decide, by decide, by decide⟩
theorem id_no (u : Nat) : (13 : UInt8) ∉ bl (sId ++ hexB u) := by
  simp only [bl_app, List.mem_append, not_or]
  exact ⟨by decide, hex_no (by decide)⟩
theorem len_no {len : ByteArray} (h : (13 : UInt8) ∉ bl len) : (13 : UInt8) ∉ bl (sLen ++ len) := by
  simp only [bl_app, List.mem_append, not_or]
  exact ⟨by decide, h⟩

theorem headF_of {s l0 l1 l2 : ByteArray} (h : spl s sEnd = [l0, l1, l2]) : headF s = headW l1 l2 (spl l0 sSpace) := by unfold headF; rw [h]
theorem headW_of {l1 l2 a b : ByteArray} : headW l1 l2 [a, b, sVer] = (targetF a b).bind (headT l1 l2) := by unfold headW; exact if_pos rfl
theorem headT_of {l1 l2 : ByteArray} {o : O} {u : Nat} (h1 : hp l1 sId = true) (h2 : unhexL (tp l1 sId).data.toList = some u) (h3 : hp l2 sLen = true) : headT l1 l2 o = some (setId o u, tp l2 sLen) := by
  unfold headT
  rw [if_pos h1, h2, Option.bind_some, if_pos h3]
theorem split_front {o : O} {len : ByteArray} (h : chkB o = true) (hl : (13 : UInt8) ∉ bl len) : spl (frontB o len) sEnd = [line0 o, sId ++ hexB o.id, sLen ++ len] := by
  unfold frontB
  rw [spl_at bEnd _ _ (line0_no h), spl_at bEnd _ _ (id_no _), spl_not bEnd _ (len_no hl)]
theorem sp_lt {c : UInt8} (h : 33 ≤ c.toNat) : c ≠ 32 := by rintro rfl; revert h; decide
theorem split_line {o : O} (h : chkB o = true) : spl (line0 o) sSpace = [methodB o.kind, targetB o, sVer] := by
  unfold line0
  rw [spl_at bSpace _ _ (fun e => sp_lt (method_ch e) rfl), spl_at bSpace _ _ (fun e => sp_lt (target_ch h e) rfl), spl_not bSpace _ (by decide)]
/-- A printed head is read back. -/
theorem head_back {o : O} {len : ByteArray} (h : chkB o = true) (hO : OkO o) (hl : (13 : UInt8) ∉ bl len) : headF (frontB o len) = some ({ o with da := [] }, len) := by
  have e1 : hp (sId ++ hexB o.id) sId = true := hp_at _ _
  have e2 : unhexL (tp (sId ++ hexB o.id) sId).data.toList = some o.id := by rw [tp_at]; exact unhex_hex hO.id
  have e3 : hp (sLen ++ len) sLen = true := hp_at _ _
  have e4 : tp (sLen ++ len) sLen = len := tp_at _ _
  rw [headF_of (split_front h hl), split_line h, headW_of, target_back h hO, Option.bind_some, headT_of e1 e2 e3, e4]
  rfl

def CC : List UInt8 := [13, 10, 13, 10]
/-- Behind a line that does not end a head the search goes on. -/
theorem ix_line {a x : List UInt8} {d : UInt8} (h : (13 : UInt8) ∉ a) (hd : d ≠ 13) {n : Nat} (hi : Lib.index (d :: x) CC = n) : Lib.index (a ++ (13 :: 10 :: d :: x)) CC = (a.length + 2 + n : Nat) := by
  have e1 : Lib.index (10 :: d :: x) CC = (n + 1 : Nat) := by
    rw [Lib.index]
    rw [if_neg (by simp [CC, List.isPrefixOf])]
    rw [hi]
    rw [if_neg (by rw [beq_iff_eq]; omega)]
    omega
  have e2 : Lib.index (13 :: 10 :: d :: x) CC = (n + 2 : Nat) := by
    rw [Lib.index]
    rw [if_neg (by simp [CC, List.isPrefixOf, Ne.symm hd])]
    rw [e1]
    rw [if_neg (by rw [beq_iff_eq]; omega)]
    omega
  unfold CC at *
  rw [ix_skip a _ h, e2, if_neg (by rw [beq_iff_eq]; omega)]
  omega
theorem head_at {o : O} {len : ByteArray} (h : chkB o = true) (hl : (13 : UInt8) ∉ bl len) (rest : List UInt8) : Lib.index (bl (frontB o len) ++ (CC ++ rest)) CC = ((frontB o len).size : Int) := by
  have h2 : Lib.index (bl (sLen ++ len) ++ (CC ++ rest)) CC = ((sLen ++ len).size : Nat) := by
    have := ix_at (c := 13) (tl := [10, 13, 10]) (bl (sLen ++ len)) rest (len_no hl)
    rw [bl_len] at this
    exact this
  have h1 : Lib.index (bl (sId ++ hexB o.id) ++ (13 :: 10 :: (bl (sLen ++ len) ++ (CC ++ rest)))) CC = ((sId ++ hexB o.id).size + 2 + (sLen ++ len).size : Nat) := by
    have e : bl (sLen ++ len) ++ (CC ++ rest) = 108 :: ([101, 110, 103, 116, 104, 58, 32] ++ bl len ++ (CC ++ rest)) := by rw [bl_app]; rfl
    rw [e] at h2 ⊢
    have := ix_line (id_no o.id) (by decide) h2
    rw [bl_len] at this
    exact this
  have e : bl (frontB o len) ++ (CC ++ rest) = bl (line0 o) ++ (13 :: 10 :: (bl (sId ++ hexB o.id) ++ (13 :: 10 :: (bl (sLen ++ len) ++ (CC ++ rest))))) := by
    unfold frontB
    simp only [bl_app, bEnd, List.append_assoc, List.cons_append, List.nil_append]
  have e2 : bl (sId ++ hexB o.id) ++ (13 :: 10 :: (bl (sLen ++ len) ++ (CC ++ rest))) = 105 :: ([100, 58, 32] ++ bl (hexB o.id) ++ (13 :: 10 :: (bl (sLen ++ len) ++ (CC ++ rest)))) := by rw [bl_app sId]; rfl
  rw [e]
  rw [e2] at h1 ⊢
  have := ix_line (line0_no h) (by decide) h1
  rw [this, bl_len]
  unfold frontB
  simp only [ByteArray.size_append]
  have : sEnd.size = 2 := rfl
  omega

theorem target_small {o : O} (hS : SmO o) : (targetB o).size ≤ 60100 := by
  have h1 := hS.bu
  have h2 := hS.ke
  have h3 := hS.af
  have h4 := itoaB_size hS.n0 hS.n1
  have h5 := hexB_size o.up
  have h6 := escB_size o.ke
  have h7 := escB_size o.af
  have h8 : (commaB o.ps).size ≤ 60000 := by show (List.toArray _).size ≤ 60000; rw [List.size_toArray]; exact commaB_size hS.ps hS.pe
  have e1 : sSlash.size = 1 := rfl
  have e2 : sPrefix.size = 8 := rfl
  have e3 : sAfter.size = 7 := rfl
  have e4 : sN.size = 3 := rfl
  have e5 : sUpload.size = 9 := rfl
  have e6 : sPart.size = 6 := rfl
  have e7 : sParts.size = 7 := rfl
  unfold targetB
  repeat (first | split | (simp only [ByteArray.size_append]; omega))
theorem front_size {o : O} {len : ByteArray} (h : chkB o = true) (hl : len.size ≤ 20) : (frontB o len).size ≤ 60200 := by
  have h1 := target_small (sm_of_chk h)
  have h2 := methodB_size o.kind
  have h3 := hexB_size o.id
  unfold frontB line0
  simp only [ByteArray.size_append]
  have e1 : sSpace.size = 1 := rfl
  have e2 : sVer.size = 5 := rfl
  have e3 : sEnd.size = 2 := rfl
  have e4 : sId.size = 4 := rfl
  have e5 : sLen.size = 8 := rfl
  omega
end Go.Proofs.YtnlooggibopknaaGreatDoor
