/- What the reference's target tells: plain. -/
import Derived.Test.YtnlooggibopknaaGreatDoorRi
import Derived.Deep.DeepCutAuto
namespace Go.Proofs.YtnlooggibopknaaGreatDoor
open Go.RowKit Go.Sort

/-- The ops that stand behind a method and a target. -/
def TarG (how s : ByteArray) (o : O) : Prop := ∃ x, chkB x = true ∧ OkO x ∧ how = methodB x.kind ∧ s = targetB x ∧ o = bareO x
def opBk (k : Int) (b : ByteArray) : O := ⟨0, k, b, ⟨#[]⟩, ⟨#[]⟩, 0, 0, [], []⟩
def opKy (k : Int) (b e : ByteArray) : O := ⟨0, k, b, e, ⟨#[]⟩, 0, 0, [], []⟩
inductive TarK (how s : ByteArray) (o : O) : Prop
  | bucket (hk : o.kind = 1 ∨ o.kind = 2) (h : nameB o.bu = true) (hs : s = sSlash ++ o.bu) (e : o = opBk o.kind o.bu)
  | key (hk : o.kind = 3 ∨ o.kind = 4 ∨ o.kind = 5 ∨ o.kind = 7) (h : nameB o.bu = true) (hs : s = sSlash ++ (o.bu ++ (sSlash ++ escB o.ke))) (e : o = opKy o.kind o.bu o.ke)
  | list (hk : o.kind = 6) (h : nameB o.bu = true) (x : ByteArray) (hs : s = sSlash ++ (o.bu ++ (sQ ++ x))) (hl : LstG 65536 o.bu x o)
  | up (x : ByteArray) (hs : s = sUpload ++ x) (hu : UplG how x o)
theorem tar_k {how s : ByteArray} {o : O} (h : TarG how s o) : how = methodB o.kind ∧ TarK how s o := by
  obtain ⟨x, hc, hO, rfl, rfl, rfl⟩ := h
  refine ⟨rfl, ?_⟩
  have hup := hO.up
  cases rt_of hc with
  | bucket hk hn e =>
    refine .bucket hk hn ?_ ?_
    · unfold targetB; rw [if_pos hk]; rfl
    · unfold bareO opBk; rw [e]
  | key hk hn h1 h2 h3 h4 e =>
    refine .key hk hn ?_ ?_
    · unfold targetB; rw [if_neg (by omega), if_neg (by omega), if_neg (by omega), if_neg (by omega), if_neg (by omega)]
      rw [ba_assoc, ba_assoc]; rfl
    · unfold bareO opKy; rw [e]
  | list hk hn h2 h3 h4 h5 e =>
    have hz := (nameB_size hn).2
    refine .list hk hn (sPre ++ (escB x.ke ++ (sAfter ++ (escB x.af ++ (sN ++ itoaB x.n))))) ?_ ⟨⟨rfl, ?_, ?_, ?_, ?_, ?_, ?_, ?_, ?_, ?_, ?_, rfl⟩, hk, rfl, ?_, ?_, rfl⟩
    · unfold targetB; rw [if_neg (by omega), if_pos hk]
      simp only [ba_assoc]
      rw [show sPrefix = sQ ++ sPre from bl_inj rfl]
      simp only [ba_assoc]
      rfl
    · show 1 ≤ x.kind; omega
    · show x.kind ≤ 10; omega
    · show x.bu.size ≤ _; omega
    · show x.ke.size ≤ _; omega
    · show x.af.size ≤ _; omega
    · show 0 ≤ x.n; omega
    · show x.n ≤ _; omega
    · exact hup
    · show x.ps.length ≤ _; rw [e]; exact Nat.zero_le _
    · show PartsOk x.ps; rw [e]; exact fun p hp => by cases hp
    · show x.up = 0; rw [e]
    · show x.ps = []; rw [e]
  | part hk h1 h2 h4 e =>
    refine .up (hexB x.up ++ (sPart ++ itoaB x.n)) ?_ ⟨sPart ++ itoaB x.n, ⟨⟨rfl, ?_, ?_, ?_, ?_, ?_, ?_, ?_, hup, ?_, ?_, rfl⟩, rfl, .inr (.inl ⟨hk, ?_, rfl⟩)⟩, rfl⟩
    · unfold targetB; rw [if_neg (by omega), if_neg (by omega), if_pos hk]
      simp only [ba_assoc]
    · show 1 ≤ x.kind; omega
    · show x.kind ≤ 10; omega
    · show x.bu.size ≤ _; rw [e]; exact Nat.le_refl _
    · show x.ke.size ≤ _; rw [e]; exact Nat.le_refl _
    · show x.af.size ≤ _; rw [e]; exact Nat.le_refl _
    · show 0 ≤ x.n; omega
    · show x.n ≤ _; omega
    · show x.ps.length ≤ _; rw [e]; exact Nat.zero_le _
    · show PartsOk x.ps; rw [e]; exact fun p hp => by cases hp
    · show x.ps = []; rw [e]
  | parts hk hr e =>
    obtain ⟨r1, r2, r3⟩ := rises_mem hr
    refine .up (hexB x.up ++ (sParts ++ commaB x.ps)) ?_ ⟨sParts ++ commaB x.ps, ⟨⟨rfl, ?_, ?_, ?_, ?_, ?_, ?_, ?_, hup, ?_, ?_, rfl⟩, rfl, .inr (.inr ⟨hk, ?_, ?_, ?_, rfl⟩)⟩, rfl⟩
    · unfold targetB; rw [if_neg (by omega), if_neg (by omega), if_neg (by omega), if_pos hk]
      simp only [ba_assoc]
    · show 1 ≤ x.kind; omega
    · show x.kind ≤ 10; omega
    · show x.bu.size ≤ _; rw [e]; exact Nat.le_refl _
    · show x.ke.size ≤ _; rw [e]; exact Nat.le_refl _
    · show x.af.size ≤ _; rw [e]; exact Nat.le_refl _
    · show 0 ≤ x.n; rw [e]; exact Int.le_refl _
    · show x.n ≤ _; rw [e]; exact (show (0 : Int) ≤ 1099511627776 by decide)
    · show x.ps.length ≤ _; omega
    · exact fun p hp => by have := r3 p hp; omega
    · show x.n = 0; rw [e]
    · intro h0
      have h1 : x.ps = [] := h0
      rw [h1] at r1
      simp at r1
    · show x.ps.length ≤ _; omega
  | abort hk e =>
    refine .up (hexB x.up) ?_ ⟨⟨#[]⟩, ⟨⟨rfl, ?_, ?_, ?_, ?_, ?_, ?_, ?_, hup, ?_, ?_, rfl⟩, rfl, .inl ⟨hk, ?_, ?_, rfl⟩⟩, (ba_nilR _).symm⟩
    · unfold targetB; rw [if_neg (by omega), if_neg (by omega), if_neg (by omega), if_neg (by omega), if_pos hk]
    · show 1 ≤ x.kind; omega
    · show x.kind ≤ 10; omega
    · show x.bu.size ≤ _; rw [e]; exact Nat.le_refl _
    · show x.ke.size ≤ _; rw [e]; exact Nat.le_refl _
    · show x.af.size ≤ _; rw [e]; exact Nat.le_refl _
    · show 0 ≤ x.n; rw [e]; exact Int.le_refl _
    · show x.n ≤ _; rw [e]; exact (show (0 : Int) ≤ 1099511627776 by decide)
    · show x.ps.length ≤ _; rw [e]; exact Nat.zero_le _
    · show PartsOk x.ps; rw [e]; exact fun p hp => by cases hp
    · show x.n = 0; rw [e]
    · show x.ps = []; rw [e]
theorem ext_bl (s : ByteArray) (i j : Nat) : bl (s.extract i j) = ((bl s).drop i).take (j - i) := Lib.extract_data s i j
theorem no_up {b x : ByteArray} (h : (63 : UInt8) ∉ bl b) (h1 : 1 ≤ b.size) : (sSlash ++ (b ++ x)).extract 0 9 ≠ sUpload := fun e => by
  have e1 := congrArg bl e
  rw [ext_bl, bl_app, bl_app, bSlash, bUp] at e1
  cases hb : bl b with
  | nil => have := bl_len b; rw [hb] at this; simp at this; omega
  | cons c t =>
    rw [hb] at e1 h
    simp at e1
    exact h (by rw [e1.1]; simp)
theorem no_upB {b : ByteArray} (h : (63 : UInt8) ∉ bl b) (h1 : 1 ≤ b.size) : (sSlash ++ b).extract 0 9 ≠ sUpload := fun e => by
  have := no_up (x := ⟨#[]⟩) h h1
  rw [ba_nilR] at this
  exact this e
/-- A target of an upload. -/
theorem tar_up {how s : ByteArray} {o : O} (h : TarG how s o) (h9 : s.extract 0 9 = sUpload) : UplG how (s.extract 9 s.size) o := by
  cases (tar_k h).2 with
  | bucket hk hn hs e => rw [hs] at h9; exact absurd h9 (no_upB (name_no hn (by decide)) (nameB_size hn).1)
  | key hk hn hs e => rw [hs] at h9; exact absurd h9 (no_up (name_no hn (by decide)) (nameB_size hn).1)
  | list hk hn x hs hl => rw [hs] at h9; exact absurd h9 (no_up (name_no hn (by decide)) (nameB_size hn).1)
  | up x hs hu =>
    have h2 := (ext_app sUpload x).2
    rw [show sUpload.size = 9 from rfl] at h2
    rw [hs, h2]
    exact hu
/-- The targets that are no upload. -/
inductive TarJ (how t : ByteArray) (o : O) : Prop
  | bucket (hk : o.kind = 1 ∨ o.kind = 2) (h : nameB o.bu = true) (hs : t = o.bu) (e : o = opBk o.kind o.bu)
  | key (hk : o.kind = 3 ∨ o.kind = 4 ∨ o.kind = 5 ∨ o.kind = 7) (h : nameB o.bu = true) (hs : t = o.bu ++ (sSlash ++ escB o.ke)) (e : o = opKy o.kind o.bu o.ke)
  | list (hk : o.kind = 6) (h : nameB o.bu = true) (x : ByteArray) (hs : t = o.bu ++ (sQ ++ x)) (hl : LstG 65536 o.bu x o)
theorem tar_slash {how s : ByteArray} {o : O} (h : TarG how s o) : ∃ t, s = sSlash ++ t := by
  cases (tar_k h).2 with
  | bucket hk hn hs e => exact ⟨_, hs⟩
  | key hk hn hs e => exact ⟨_, hs⟩
  | list hk hn x hs hl => exact ⟨_, hs⟩
  | up x hs hu => exact ⟨⟨#[63, 117, 112, 108, 111, 97, 100, 61]⟩ ++ x, by rw [hs, ← ba_assoc]; rfl⟩
theorem slash_inj {a b : ByteArray} (h : sSlash ++ a = sSlash ++ b) : a = b := by
  have := congrArg bl h
  rw [bl_app, bl_app] at this
  exact bl_inj (List.append_cancel_left this)
theorem tar_j {how s t : ByteArray} {o : O} (hno : ¬ (9 < s.size ∧ s.extract 0 9 = sUpload)) (ht : s = sSlash ++ t) (h : TarG how s o) : how = methodB o.kind ∧ TarJ how t o := by
  refine ⟨(tar_k h).1, ?_⟩
  cases (tar_k h).2 with
  | bucket hk hn hs e => exact .bucket hk hn (slash_inj (ht.symm.trans hs)) e
  | key hk hn hs e => exact .key hk hn (slash_inj (ht.symm.trans hs)) e
  | list hk hn x hs hl => exact .list hk hn x (slash_inj (ht.symm.trans hs)) hl
  | up x hs hu =>
    have h2 := (ext_app sUpload x).1
    rw [show sUpload.size = 9 from rfl, ← hs] at h2
    have := upl_long hu
    refine absurd ⟨?_, h2⟩ hno
    rw [hs, ByteArray.size_append, show sUpload.size = 9 from rfl]
    omega
theorem bQ : bl sQ = 63 :: [] := rfl
theorem meth1 : methodB 1 = bPUT := by unfold methodB; decide
theorem meth2 : methodB 2 = bDELETE := by unfold methodB; decide
theorem meth3 : methodB 3 = bPUT := by unfold methodB; decide
theorem meth4 : methodB 4 = bGET := by unfold methodB; decide
theorem meth5 : methodB 5 = bDELETE := by unfold methodB; decide
theorem meth6 : methodB 6 = bGET := by unfold methodB; decide
theorem meth7 : methodB 7 = bPOST := by unfold methodB; decide
theorem key_q {b e : ByteArray} (hn : nameB b = true) : cutO (b ++ (sSlash ++ escB e)) sQ = none :=
  cutO_not bQ _ (by rw [bl_app, bl_app]; simp only [List.mem_append, not_or]; exact ⟨name_no hn (by decide), by decide, esc_no (by decide) (by decide)⟩)
/-- A listing. -/
theorem tar_list {how t b r : ByteArray} {o : O} (hj : how = methodB o.kind ∧ TarJ how t o) (hg : how = bGET) (hc : cutO t sQ = some (b, r)) : LstG 65536 b r o := by
  obtain ⟨hm, hj⟩ := hj
  cases hj with
  | bucket hk hn hs e =>
    rw [hg] at hm
    rcases hk with hk | hk <;> rw [hk] at hm
    · rw [meth1] at hm; exact absurd hm (by decide)
    · rw [meth2] at hm; exact absurd hm (by decide)
  | key hk hn hs e => rw [hs, key_q hn] at hc; cases hc
  | list hk hn x hs hl =>
    rw [hs, cutO_at bQ _ _ (name_no hn (by decide))] at hc
    simp only [Option.some.injEq, Prod.mk.injEq] at hc
    obtain ⟨rfl, rfl⟩ := hc
    exact hl
/-- No listing, no upload. -/
theorem tar_rest {how t : ByteArray} {o : O} (hj : how = methodB o.kind ∧ TarJ how t o) (hno : how = bGET → cutO t sQ = none) : ¬ o.kind = 6 := fun hk => by
  obtain ⟨hm, hj⟩ := hj
  cases hj with
  | bucket h _ _ _ => omega
  | key h _ _ _ => omega
  | list hk hn x hs hl =>
    rw [hk, meth6] at hm
    have := hno hm
    rw [hs, cutO_at bQ _ _ (name_no hn (by decide))] at this
    cases this
theorem tar_bucket {how t : ByteArray} {o : O} (hj : how = methodB o.kind ∧ TarJ how t o) (h6 : ¬ o.kind = 6) (hc : cutO t sSlash = none) : (o.kind = 1 ∨ o.kind = 2) ∧ o = opBk o.kind t := by
  obtain ⟨hm, hj⟩ := hj
  cases hj with
  | bucket hk hn hs e => rw [hs]; exact ⟨hk, e⟩
  | key hk hn hs e => rw [hs, cutO_at bSlash _ _ (name_no hn (by decide))] at hc; cases hc
  | list hk hn x hs hl => exact absurd hk h6
theorem tar_key {how t b r : ByteArray} {o : O} (hj : how = methodB o.kind ∧ TarJ how t o) (h6 : ¬ o.kind = 6) (hc : cutO t sSlash = some (b, r)) : (o.kind = 3 ∨ o.kind = 4 ∨ o.kind = 5 ∨ o.kind = 7) ∧ r = escB o.ke ∧ o = opKy o.kind b o.ke := by
  obtain ⟨hm, hj⟩ := hj
  cases hj with
  | bucket hk hn hs e => rw [hs, cutO_not bSlash _ (name_no hn (by decide))] at hc; cases hc
  | key hk hn hs e =>
    rw [hs, cutO_at bSlash _ _ (name_no hn (by decide))] at hc
    simp only [Option.some.injEq, Prod.mk.injEq] at hc
    obtain ⟨rfl, rfl⟩ := hc
    exact ⟨hk, rfl, e⟩
  | list hk hn x hs hl => exact absurd hk h6
/-- What target tells of a bucket. -/
theorem tar_bk {how t : ByteArray} {o : O} {k : Int} (hj : how = methodB o.kind ∧ TarJ how t o) (h6 : ¬ o.kind = 6) (hc : cutO t sSlash = none) (hm : (k = 1 ∧ how = bPUT) ∨ (k = 2 ∧ how = bDELETE)) : opBk k t = o := by
  obtain ⟨h1, h2⟩ := tar_bucket hj h6 hc
  rcases hm with ⟨rfl, hm⟩ | ⟨rfl, hm⟩ <;> rcases h1 with h1 | h1 <;> rw [h2, h1]
  · have := hj.1; rw [hm, h1, meth2] at this; exact absurd this (by decide)
  · have := hj.1; rw [hm, h1, meth1] at this; exact absurd this (by decide)
theorem tar_nobk {how t : ByteArray} {o : O} (hj : how = methodB o.kind ∧ TarJ how t o) (h6 : ¬ o.kind = 6) (hc : cutO t sSlash = none) (h1 : how ≠ bPUT) (h2 : how ≠ bDELETE) : False := by
  rcases (tar_bucket hj h6 hc).1 with h | h
  · exact h1 (by rw [hj.1, h, meth1])
  · exact h2 (by rw [hj.1, h, meth2])
/-- What target tells of a key. -/
theorem tar_ky {how t b r k : ByteArray} {o : O} {kb : Bool} {n : Int} (hj : how = methodB o.kind ∧ TarJ how t o) (h6 : ¬ o.kind = 6) (hc : cutO t sSlash = some (b, r)) (hk : ∀ x, r = escB x → kb = true ∧ k = x)
    (hm : (n = 3 ∧ how = bPUT) ∨ (n = 4 ∧ how = bGET) ∨ (n = 5 ∧ how = bDELETE) ∨ (n = 7 ∧ how = bPOST)) : kb = true ∧ opKy n b k = o := by
  obtain ⟨h1, h2, h3⟩ := tar_key hj h6 hc
  obtain ⟨h4, h5⟩ := hk _ h2
  refine ⟨h4, ?_⟩
  have hmm := hj.1
  rcases hm with ⟨rfl, hm⟩ | ⟨rfl, hm⟩ | ⟨rfl, hm⟩ | ⟨rfl, hm⟩ <;> rcases h1 with h1 | h1 | h1 | h1 <;> rw [hm, h1] at hmm <;> first | (rw [h3, h1, h5]; done) | (exfalso; first | (rw [meth3] at hmm; revert hmm; decide) | (rw [meth4] at hmm; revert hmm; decide) | (rw [meth5] at hmm; revert hmm; decide) | (rw [meth7] at hmm; revert hmm; decide))
theorem tar_noky {how t b r : ByteArray} {o : O} (hj : how = methodB o.kind ∧ TarJ how t o) (h6 : ¬ o.kind = 6) (hc : cutO t sSlash = some (b, r)) (h1 : how ≠ bPUT) (h2 : how ≠ bGET) (h3 : how ≠ bDELETE) (h4 : how ≠ bPOST) : False := by
  rcases (tar_key hj h6 hc).1 with h | h | h | h
  · exact h1 (by rw [hj.1, h, meth3])
  · exact h2 (by rw [hj.1, h, meth4])
  · exact h3 (by rw [hj.1, h, meth5])
  · exact h4 (by rw [hj.1, h, meth7])
theorem opn_bk {N : Nat} {k : Int} {b : ByteArray} (h0 : 1 ≤ k) (h1 : k ≤ 10) (hb : b.size ≤ N) : OpnO N (opBk k b) := ⟨rfl, h0, h1, hb, Nat.zero_le _, Nat.zero_le _, Int.le_refl _, (show (0 : Int) ≤ 1099511627776 by decide), (show 0 < 2 ^ 64 by decide), Nat.zero_le _, (fun p hp => by cases hp), rfl⟩
theorem opn_ky {N : Nat} {k : Int} {b e : ByteArray} (h0 : 1 ≤ k) (h1 : k ≤ 10) (hb : b.size ≤ N) (he : e.size ≤ N) : OpnO N (opKy k b e) := ⟨rfl, h0, h1, hb, he, Nat.zero_le _, Int.le_refl _, (show (0 : Int) ≤ 1099511627776 by decide), (show 0 < 2 ^ 64 by decide), Nat.zero_le _, (fun p hp => by cases hp), rfl⟩
theorem opn_mono {N M : Nat} {o : O} (h : OpnO N o) (hm : N ≤ M) : OpnO M o := ⟨h.id, h.k0, h.k1, Nat.le_trans h.bu hm, Nat.le_trans h.ke hm, Nat.le_trans h.af hm, h.n0, h.n1, h.up, h.ps, h.pe, h.da⟩
theorem slash_is {s : ByteArray} (hx : ∃ t, s = sSlash ++ t) : ∃ (h : 0 < s.size), (s[0].toNat : Int) = 47 ∧ s = sSlash ++ s.extract 1 s.size := by
  obtain ⟨t, rfl⟩ := hx
  have h := ext_app sSlash t
  have h0 : 0 < (sSlash ++ t).size := by rw [ByteArray.size_append, show sSlash.size = 1 from rfl]; omega
  refine ⟨h0, ?_, ?_⟩
  · have e := bl0 h0
    rw [bl_app, bSlash] at e
    simp only [List.cons_append, List.nil_append, List.getElem?_cons_zero, Option.some.injEq] at e
    rw [← e]
    rfl
  · rw [show (1 : Nat) = sSlash.size from rfl, h.2]
theorem slash_of {s : ByteArray} (hp : 0 < s.size) (e : (s[0].toNat : Int) = 47) : s = sSlash ++ s.extract 1 s.size := by
  apply bl_inj
  rw [bl_app, bSlash, ext_bl, List.take_of_length_le (by rw [List.length_drop, bl_len]; exact Nat.le_refl _)]
  cases hb : bl s with
  | nil => have := bl_len s; rw [hb] at this; simp at this; omega
  | cons c t =>
    have h := bl0 hp
    rw [hb] at h
    simp only [List.getElem?_cons_zero, Option.some.injEq] at h
    have hc : c = 47 := by
      apply UInt8.toNat_inj.1
      rw [h]
      have e47 : (47 : UInt8).toNat = 47 := rfl
      omega
    rw [hc]
    rfl
theorem q9_of {s : ByteArray} (hno : ¬ (9 < s.size ∧ s.extract 0 9 = sUpload)) : (((9 : Int) < (s.size : Int)) ∧ ((s.extract 0 9).toList == [47, 63, 117, 112, 108, 111, 97, 100, 61]) = false ∧ ((9 : Int) ≤ (s.size : Int)) ∧ 9 ≤ s.size) ∨ ¬ ((9 : Int) < (s.size : Int)) := by
  by_cases h : 9 < s.size
  · exact .inl ⟨by omega, by rw [q_of]; exact decide_eq_false fun e => hno ⟨h, e⟩, by omega, by omega⟩
  · exact .inr (by omega)
theorem one_block (w : World) (A : Array Value) : ∃ W, W = w.alloc (.cells A 26) ∧ W.heap[w.heap.size]? = some (.cells A 26 (0, 0)) ∧ Below w.heap.size w W := ⟨_, rfl, heap_alloc_new w _, (Below.refl w.heap.size w).alloc (Nat.le_refl _) _⟩
theorem nb_block (w W : World) (A : Array Value) {q : Nat} {x : Obj} (hq : W.heap[q]? = some x) (hb : Below w.heap.size w W) : ∃ V, V = W.alloc (.cells A 26) ∧ V.heap[W.heap.size]? = some (.cells A 26 (0, 0)) ∧ V.heap[q]? = some x ∧ Below w.heap.size w V :=
  ⟨_, rfl, heap_alloc_new W _, by rw [heap_alloc_old _ _ (lt_of_at hq)]; exact hq, hb.alloc hb.size _⟩

set_option maxHeartbeats 4000000 in
set_option maxRecDepth 100000 in
theorem targetR_up (how s : ByteArray) (w : World) (hs : s.size ≤ 65536) (h9 : 9 < s.size) (hu : s.extract 0 9 = sUpload) : Calls Tryz.prog 86 #[.string how, .string s] w (TgtR (TarG how s) 65536 w) := by
  have q1 : (9 : Int) < (s.size : Int) := by omega
  have q2 : ((s.extract 0 9).toList == [47, 63, 117, 112, 108, 111, 97, 100, 61]) = true := by rw [q_of]; exact decide_eq_true hu
  have q3 : (9 : Int) ≤ (s.size : Int) := by omega
  have q4 : 9 ≤ s.size := by omega
  have HC : Hid (∀ W, Calls Tryz.prog 112 #[.string how, .string (s.extract 9 s.size)] W (TgtR (UplG how (s.extract 9 s.size)) 0 W)) := fun W => uploadR_any _ _ W (by rw [ByteArray.size_extract]; omega)
  have HT : Hid (∀ o, TarG how s o → UplG how (s.extract 9 s.size) o) := fun o ho => tar_up ho hu
  clear hu
  go_enter Tryz.func86, Tryz.ntmps86
  go_upto_region 2 with fail
  obtain ⟨W, hW, hz0, hb⟩ := one_block w #[.int .u64 0, .int .i64 0, .string ⟨#[]⟩, .string ⟨#[]⟩, .string ⟨#[]⟩, .int .i64 0, .int .u64 0, .slice none 0 0, .slice none 0 0]
  rw [← hW]
  clear hW
  have hsz : w.heap.size < W.heap.size := lt_of_at hz0
  go_wp2_with fail
  refine (HC.out _).mono ?_
  rintro e W1 ⟨r, pv, b, rfl, hrow, hda, hopn, hb1, htell⟩
  have hsz0 := hsz
  have hz0 : W1.heap[w.heap.size]? = some (.cells #[.int .u64 0, .int .i64 0, .string ⟨#[]⟩, .string ⟨#[]⟩, .string ⟨#[]⟩, .int .i64 0, .int .u64 0, .slice none 0 0, .slice none 0 0] 26 (0, 0)) := (hb1.block _ hsz).trans hz0
  have hb := hb.trans (hb1.mono hb.size)
  have hsz : w.heap.size < W1.heap.size := lt_of_at hz0
  have HO := Lib.hid hopn
  have HL := Lib.hid htell
  clear hopn htell hb1
  obtain ⟨va, vc, hve⟩ := hrow.c.row.form
  rw [show (icells r.ps).length = r.ps.length by simp [icells]] at hve
  subst hve
  have HR := Lib.hid (hrow.x (pb := w.heap.size) hsz0)
  have HD := Lib.hid hda
  clear hrow hda
  have z0 : W1.cell? ⟨w.heap.size, 0, none⟩ = some (.int .u64 0) := cell_of_row _ _ 0 _ _ _ hz0
  have z1 : W1.cell? ⟨w.heap.size, 1, none⟩ = some (.int .i64 0) := cell_of_row _ _ 1 _ _ _ hz0
  have z2 : W1.cell? ⟨w.heap.size, 2, none⟩ = some (.string ⟨#[]⟩) := cell_of_row _ _ 2 _ _ _ hz0
  have z3 : W1.cell? ⟨w.heap.size, 3, none⟩ = some (.string ⟨#[]⟩) := cell_of_row _ _ 3 _ _ _ hz0
  have z4 : W1.cell? ⟨w.heap.size, 4, none⟩ = some (.string ⟨#[]⟩) := cell_of_row _ _ 4 _ _ _ hz0
  have z5 : W1.cell? ⟨w.heap.size, 5, none⟩ = some (.int .i64 0) := cell_of_row _ _ 5 _ _ _ hz0
  have z6 : W1.cell? ⟨w.heap.size, 6, none⟩ = some (.int .u64 0) := cell_of_row _ _ 6 _ _ _ hz0
  have z7 : W1.cell? ⟨w.heap.size, 7, none⟩ = some (.slice none 0 0) := cell_of_row _ _ 7 _ _ _ hz0
  have z8 : W1.cell? ⟨w.heap.size, 8, none⟩ = some (.slice none 0 0) := cell_of_row _ _ 8 _ _ _ hz0
  have zf : ∀ j, W1.frozen? ⟨w.heap.size, j, none⟩ = false := fun j => frozen_of_row W1 (w.heap.size) j _ _ hz0
  go_wp2
  exact tgt_ret (W := setOp W1 w.heap.size r (.slice va r.ps.length vc) (.slice none 0 0)) Tryz.results86 rfl rfl (setOp_same hz0 rfl) ⟨r, .slice va r.ps.length vc, b, rfl, (HR.out.setOp (Nat.le_refl _) _ _ _).z (Nat.le_succ _), HD.out, (fun h => opn_mono (HO.out h) (by decide)), setOp_low hb (Nat.le_refl _) _ _ _, fun o ho => HL.out o (HT.out o ho)⟩

set_option maxHeartbeats 4000000 in
set_option maxRecDepth 100000 in
theorem targetR_no (how s : ByteArray) (w : World) (hs : s.size ≤ 65536) (hno : ¬ (9 < s.size ∧ s.extract 0 9 = sUpload)) (hx : ¬ ∃ t, s = sSlash ++ t) : Calls Tryz.prog 86 #[.string how, .string s] w (TgtR (TarG how s) 65536 w) := by
  have HN : Hid (∀ o, ¬ TarG how s o) := fun o ho => hx (tar_slash ho)
  by_cases h0 : s.size = 0
  · obtain rfl : s = ⟨#[]⟩ := ba_zero (by omega)
    go_enter Tryz.func86, Tryz.ntmps86
    go_upto_region 4 with fail
    obtain ⟨W, hW, hz0, hb⟩ := one_block w #[.int .u64 0, .int .i64 0, .string ⟨#[]⟩, .string ⟨#[]⟩, .string ⟨#[]⟩, .int .i64 0, .int .u64 0, .slice none 0 0, .slice none 0 0]
    rw [← hW]
    clear hW
    have hsz : w.heap.size < W.heap.size := lt_of_at hz0
    have z0 : W.cell? ⟨w.heap.size, 0, none⟩ = some (.int .u64 0) := cell_of_row _ _ 0 _ _ _ hz0
    have z1 : W.cell? ⟨w.heap.size, 1, none⟩ = some (.int .i64 0) := cell_of_row _ _ 1 _ _ _ hz0
    have z2 : W.cell? ⟨w.heap.size, 2, none⟩ = some (.string ⟨#[]⟩) := cell_of_row _ _ 2 _ _ _ hz0
    have z3 : W.cell? ⟨w.heap.size, 3, none⟩ = some (.string ⟨#[]⟩) := cell_of_row _ _ 3 _ _ _ hz0
    have z4 : W.cell? ⟨w.heap.size, 4, none⟩ = some (.string ⟨#[]⟩) := cell_of_row _ _ 4 _ _ _ hz0
    have z5 : W.cell? ⟨w.heap.size, 5, none⟩ = some (.int .i64 0) := cell_of_row _ _ 5 _ _ _ hz0
    have z6 : W.cell? ⟨w.heap.size, 6, none⟩ = some (.int .u64 0) := cell_of_row _ _ 6 _ _ _ hz0
    have z7 : W.cell? ⟨w.heap.size, 7, none⟩ = some (.slice none 0 0) := cell_of_row _ _ 7 _ _ _ hz0
    have z8 : W.cell? ⟨w.heap.size, 8, none⟩ = some (.slice none 0 0) := cell_of_row _ _ 8 _ _ _ hz0
    have zf : ∀ j, W.frozen? ⟨w.heap.size, j, none⟩ = false := fun j => frozen_of_row W (w.heap.size) j _ _ hz0
    go_wp2
    exact tgt_ret (W := setOp W w.heap.size zeroO (.slice none 0 0) (.slice none 0 0)) Tryz.results86 rfl rfl (setOp_same hz0 rfl) (tgt_no (setOp_low hb (Nat.le_refl _) _ _ _) HN.out)
  · have hp : 0 < s.size := by omega
    have hpi : (0 : Int) < (s.size : Int) := by omega
    have hp1 : ¬ (s.size : Int) < 1 := by omega
    have h47 : ¬ (s[0].toNat : Int) = 47 := fun e => hx ⟨_, slash_of hp e⟩
    have hq : (((9 : Int) < (s.size : Int)) ∧ ((s.extract 0 9).toList == [47, 63, 117, 112, 108, 111, 97, 100, 61]) = false ∧ ((9 : Int) ≤ (s.size : Int)) ∧ 9 ≤ s.size) ∨ ¬ ((9 : Int) < (s.size : Int)) := q9_of hno
    clear hno hx h0
    rcases hq with ⟨q1, q2, q3, q4⟩ | q1
    all_goals
      go_enter Tryz.func86, Tryz.ntmps86
      go_upto_region 4 with fail
      obtain ⟨W, hW, hz0, hb⟩ := one_block w #[.int .u64 0, .int .i64 0, .string ⟨#[]⟩, .string ⟨#[]⟩, .string ⟨#[]⟩, .int .i64 0, .int .u64 0, .slice none 0 0, .slice none 0 0]
      rw [← hW]
      clear hW
      have hsz : w.heap.size < W.heap.size := lt_of_at hz0
      have z0 : W.cell? ⟨w.heap.size, 0, none⟩ = some (.int .u64 0) := cell_of_row _ _ 0 _ _ _ hz0
      have z1 : W.cell? ⟨w.heap.size, 1, none⟩ = some (.int .i64 0) := cell_of_row _ _ 1 _ _ _ hz0
      have z2 : W.cell? ⟨w.heap.size, 2, none⟩ = some (.string ⟨#[]⟩) := cell_of_row _ _ 2 _ _ _ hz0
      have z3 : W.cell? ⟨w.heap.size, 3, none⟩ = some (.string ⟨#[]⟩) := cell_of_row _ _ 3 _ _ _ hz0
      have z4 : W.cell? ⟨w.heap.size, 4, none⟩ = some (.string ⟨#[]⟩) := cell_of_row _ _ 4 _ _ _ hz0
      have z5 : W.cell? ⟨w.heap.size, 5, none⟩ = some (.int .i64 0) := cell_of_row _ _ 5 _ _ _ hz0
      have z6 : W.cell? ⟨w.heap.size, 6, none⟩ = some (.int .u64 0) := cell_of_row _ _ 6 _ _ _ hz0
      have z7 : W.cell? ⟨w.heap.size, 7, none⟩ = some (.slice none 0 0) := cell_of_row _ _ 7 _ _ _ hz0
      have z8 : W.cell? ⟨w.heap.size, 8, none⟩ = some (.slice none 0 0) := cell_of_row _ _ 8 _ _ _ hz0
      have zf : ∀ j, W.frozen? ⟨w.heap.size, j, none⟩ = false := fun j => frozen_of_row W (w.heap.size) j _ _ hz0
      go_wp2
      exact tgt_ret (W := setOp W w.heap.size zeroO (.slice none 0 0) (.slice none 0 0)) Tryz.results86 rfl rfl (setOp_same hz0 rfl) (tgt_no (setOp_low hb (Nat.le_refl _) _ _ _) HN.out)

set_option maxHeartbeats 32000000 in
set_option maxRecDepth 100000 in
theorem targetR_rest (how s : ByteArray) (w : World) (hs : s.size ≤ 65536) (hno : ¬ (9 < s.size ∧ s.extract 0 9 = sUpload)) (hx : ∃ t, s = sSlash ++ t) : Calls Tryz.prog 86 #[.string how, .string s] w (TgtR (TarG how s) 65536 w) := by
  obtain ⟨hp, h47, ht⟩ := slash_is hx
  have hpi : (0 : Int) < (s.size : Int) := by omega
  have hp1 : ¬ (s.size : Int) < 1 := by omega
  have hp2 : (1 : Int) ≤ (s.size : Int) := by omega
  have hp3 : 1 ≤ s.size := hp
  have hq : (((9 : Int) < (s.size : Int)) ∧ ((s.extract 0 9).toList == [47, 63, 117, 112, 108, 111, 97, 100, 61]) = false ∧ ((9 : Int) ≤ (s.size : Int)) ∧ 9 ≤ s.size) ∨ ¬ ((9 : Int) < (s.size : Int)) := q9_of hno
  have HJ : Hid (∀ o, TarG how s o → how = methodB o.kind ∧ TarJ how (s.extract 1 s.size) o) := fun o ho => tar_j hno ht ho
  have hts : (s.extract 1 s.size).size ≤ 65536 := by rw [ByteArray.size_extract]; omega
  clear hno hx ht
  go_enter Tryz.func86, Tryz.ntmps86
  go_upto_region 1 with fail
  obtain ⟨W, hW, hz0, hb⟩ := one_block w #[.int .u64 0, .int .i64 0, .string ⟨#[]⟩, .string ⟨#[]⟩, .string ⟨#[]⟩, .int .i64 0, .int .u64 0, .slice none 0 0, .slice none 0 0]
  rw [← hW]
  clear hW
  have hsz : w.heap.size < W.heap.size := lt_of_at hz0
  go_cut [19] (fun s19 wx => s19 = .bool false ∧ wx = W)
  case first =>
    rcases hq with ⟨q1, q2, q3, q4⟩ | q1
    all_goals
      go_wp2_with fail
      go_meet
      exact ⟨rfl, rfl⟩
  case rest =>
    obtain ⟨rfl, rfl⟩ := hcut
    clear hq
    go_upto_region 6 with fail
    generalize s.extract 1 s.size = t at *
    have HU1 : Hid (∀ W, Calls Tryz.prog 85 #[.string t, .string ⟨#[63]⟩] W fun e w' => e = untilE t sQ ∧ Below W.heap.size W w') := fun W => until_any t sQ W (by omega) (by decide) (by decide)
    have HU2 : Hid (∀ W, Calls Tryz.prog 85 #[.string t, .string ⟨#[47]⟩] W fun e w' => e = untilE t sSlash ∧ Below W.heap.size W w') := fun W => until_any t sSlash W (by omega) (by decide) (by decide)
    go_wp2_with fail
    refine (HU1.out _).mono ?_
    rintro e W1 ⟨he, hb1⟩
    have he := Lib.hid he
    have hz0 : W1.heap[w.heap.size]? = some (.cells #[.int .u64 0, .int .i64 0, .string ⟨#[]⟩, .string ⟨#[]⟩, .string ⟨#[]⟩, .int .i64 0, .int .u64 0, .slice none 0 0, .slice none 0 0] 26 (0, 0)) := (hb1.block _ hsz).trans hz0
    have hb := hb.trans (hb1.mono hb.size)
    have hsz : w.heap.size < W1.heap.size := lt_of_at hz0
    clear hb1
    by_cases hlist : how = bGET ∧ ∃ q, cutO t sQ = some q
    · obtain ⟨hg, ⟨b1, r1⟩, hc⟩ := hlist
      obtain rfl := he.out.trans (until_some hc)
      have hz1 := cutO_size hc
      have HT : Hid (∀ o, TarG how s o → LstG 65536 b1 r1 o) := fun o ho => tar_list (HJ.out o ho) hg hc
      have qg : (how.toList == [71, 69, 84]) = true := by rw [q_of]; exact decide_eq_true hg
      have HC : Hid (∀ W, Calls Tryz.prog 113 #[.string b1, .string r1] W (TgtR (LstG 65536 b1 r1) 65536 W)) := fun W => listing_any b1 r1 W (by omega) (by omega)
      clear hg hc hz1 he HJ HU1 HU2
      go_wp2_with fail
      refine (HC.out _).mono ?_
      rintro e W2 ⟨r, pv, b, rfl, hrow, hda, hopn, hb1, htell⟩
      have hsz0 := hsz
      have hz0 : W2.heap[w.heap.size]? = some (.cells #[.int .u64 0, .int .i64 0, .string ⟨#[]⟩, .string ⟨#[]⟩, .string ⟨#[]⟩, .int .i64 0, .int .u64 0, .slice none 0 0, .slice none 0 0] 26 (0, 0)) := (hb1.block _ hsz).trans hz0
      have hb := hb.trans (hb1.mono hb.size)
      have hsz : w.heap.size < W2.heap.size := lt_of_at hz0
      have HO := Lib.hid hopn
      have HL := Lib.hid htell
      clear hopn htell hb1
      obtain ⟨va, vc, hve⟩ := hrow.c.row.form
      rw [show (icells r.ps).length = r.ps.length by simp [icells]] at hve
      subst hve
      have HR := Lib.hid (hrow.x (pb := w.heap.size) hsz0)
      have HD := Lib.hid hda
      clear hrow hda
      have z0 : W2.cell? ⟨w.heap.size, 0, none⟩ = some (.int .u64 0) := cell_of_row _ _ 0 _ _ _ hz0
      have z1 : W2.cell? ⟨w.heap.size, 1, none⟩ = some (.int .i64 0) := cell_of_row _ _ 1 _ _ _ hz0
      have z2 : W2.cell? ⟨w.heap.size, 2, none⟩ = some (.string ⟨#[]⟩) := cell_of_row _ _ 2 _ _ _ hz0
      have z3 : W2.cell? ⟨w.heap.size, 3, none⟩ = some (.string ⟨#[]⟩) := cell_of_row _ _ 3 _ _ _ hz0
      have z4 : W2.cell? ⟨w.heap.size, 4, none⟩ = some (.string ⟨#[]⟩) := cell_of_row _ _ 4 _ _ _ hz0
      have z5 : W2.cell? ⟨w.heap.size, 5, none⟩ = some (.int .i64 0) := cell_of_row _ _ 5 _ _ _ hz0
      have z6 : W2.cell? ⟨w.heap.size, 6, none⟩ = some (.int .u64 0) := cell_of_row _ _ 6 _ _ _ hz0
      have z7 : W2.cell? ⟨w.heap.size, 7, none⟩ = some (.slice none 0 0) := cell_of_row _ _ 7 _ _ _ hz0
      have z8 : W2.cell? ⟨w.heap.size, 8, none⟩ = some (.slice none 0 0) := cell_of_row _ _ 8 _ _ _ hz0
      have zf : ∀ j, W2.frozen? ⟨w.heap.size, j, none⟩ = false := fun j => frozen_of_row W2 (w.heap.size) j _ _ hz0
      go_wp2
      exact tgt_ret (W := setOp W2 w.heap.size r (.slice va r.ps.length vc) (.slice none 0 0)) Tryz.results86 rfl rfl (setOp_same hz0 rfl) ⟨r, .slice va r.ps.length vc, b, rfl, (HR.out.setOp (Nat.le_refl _) _ _ _).z (Nat.le_succ _), HD.out, HO.out, setOp_low hb (Nat.le_refl _) _ _ _, fun o ho => HL.out o (HT.out o ho)⟩
    · have hf : ∃ (x1 x2 : ByteArray) (f : Bool), e = .returned (.tuple #[.string x1, .string x2, .bool f]) ∧ (f = true → (how.toList == [71, 69, 84]) = false) := by
        cases hc : cutO t sQ with
        | none => exact ⟨_, _, false, he.out.trans (until_none hc), fun h => by cases h⟩
        | some q => exact ⟨_, _, true, he.out.trans (until_some (a := q.1) (b := q.2) hc), fun _ => by rw [q_of]; exact decide_eq_false fun h => hlist ⟨h, q, hc⟩⟩
      have H6 : Hid (∀ o, TarG how s o → ¬ o.kind = 6) := fun o ho => tar_rest (HJ.out o ho) fun hg => by
        cases hc : cutO t sQ with
        | none => rfl
        | some q => exact absurd ⟨hg, q, hc⟩ hlist
      obtain ⟨x1, x2, f, rfl, hfq⟩ := hf
      clear hlist he
      go_upto_region 7 with fail
      go_cut [47] (fun s47 wx => s47 = .bool false ∧ wx = W1)
      case first =>
        cases f with
        | false =>
          clear hfq
          go_wp2_with fail
          go_meet
          exact ⟨rfl, rfl⟩
        | true =>
          have qg := hfq rfl
          clear hfq
          go_wp2_with fail
          go_meet
          exact ⟨rfl, rfl⟩
      case rest =>
        obtain ⟨rfl, rfl⟩ := hcut
        clear hfq
        clear HU1
        go_wp2_with fail
        refine (HU2.out _).mono ?_
        rintro e W2 ⟨he, hb1⟩
        have he := Lib.hid he
        have hz0 : W2.heap[w.heap.size]? = some (.cells #[.int .u64 0, .int .i64 0, .string ⟨#[]⟩, .string ⟨#[]⟩, .string ⟨#[]⟩, .int .i64 0, .int .u64 0, .slice none 0 0, .slice none 0 0] 26 (0, 0)) := (hb1.block _ hsz).trans hz0
        have hb := hb.trans (hb1.mono hb.size)
        have hsz : w.heap.size < W2.heap.size := lt_of_at hz0
        clear hb1 HU2
        cases hc : cutO t sSlash with
        | none =>
          obtain rfl := he.out.trans (until_none hc)
          have HC := Lib.hid hc
          clear hc he
          by_cases m1 : how = bPUT
          · have HT : Hid (∀ o, TarG how s o → opBk 1 t = o) := fun o ho => tar_bk (HJ.out o ho) (H6.out o ho) HC.out (.inl ⟨rfl, m1⟩)
            have g1 : (how.toList == [80, 85, 84]) = true := by rw [q_of]; exact decide_eq_true m1
            clear m1
            have z0 : W2.cell? ⟨w.heap.size, 0, none⟩ = some (.int .u64 0) := cell_of_row _ _ 0 _ _ _ hz0
            have z1 : W2.cell? ⟨w.heap.size, 1, none⟩ = some (.int .i64 0) := cell_of_row _ _ 1 _ _ _ hz0
            have z2 : W2.cell? ⟨w.heap.size, 2, none⟩ = some (.string ⟨#[]⟩) := cell_of_row _ _ 2 _ _ _ hz0
            have z3 : W2.cell? ⟨w.heap.size, 3, none⟩ = some (.string ⟨#[]⟩) := cell_of_row _ _ 3 _ _ _ hz0
            have z4 : W2.cell? ⟨w.heap.size, 4, none⟩ = some (.string ⟨#[]⟩) := cell_of_row _ _ 4 _ _ _ hz0
            have z5 : W2.cell? ⟨w.heap.size, 5, none⟩ = some (.int .i64 0) := cell_of_row _ _ 5 _ _ _ hz0
            have z6 : W2.cell? ⟨w.heap.size, 6, none⟩ = some (.int .u64 0) := cell_of_row _ _ 6 _ _ _ hz0
            have z7 : W2.cell? ⟨w.heap.size, 7, none⟩ = some (.slice none 0 0) := cell_of_row _ _ 7 _ _ _ hz0
            have z8 : W2.cell? ⟨w.heap.size, 8, none⟩ = some (.slice none 0 0) := cell_of_row _ _ 8 _ _ _ hz0
            have zf : ∀ j, W2.frozen? ⟨w.heap.size, j, none⟩ = false := fun j => frozen_of_row W2 (w.heap.size) j _ _ hz0
            go_wp2
            exact tgt_ret (W := setOp W2 w.heap.size (opBk 1 t) (.slice none 0 0) (.slice none 0 0)) Tryz.results86 rfl rfl (setOp_same hz0 rfl) ⟨opBk 1 t, .slice none 0 0, true, rfl, RowZ.nil _ _ _ _, rfl, (fun _ => opn_bk (by decide) (by decide) hts), setOp_low hb (Nat.le_refl _) _ _ _, fun o ho => ⟨rfl, HT.out o ho⟩⟩
          have g1 : (how.toList == [80, 85, 84]) = false := by rw [q_of]; exact decide_eq_false m1
          by_cases m2 : how = bDELETE
          · have HT : Hid (∀ o, TarG how s o → opBk 2 t = o) := fun o ho => tar_bk (HJ.out o ho) (H6.out o ho) HC.out (.inr ⟨rfl, m2⟩)
            have g2 : (how.toList == [68, 69, 76, 69, 84, 69]) = true := by rw [q_of]; exact decide_eq_true m2
            clear m1 m2
            have z0 : W2.cell? ⟨w.heap.size, 0, none⟩ = some (.int .u64 0) := cell_of_row _ _ 0 _ _ _ hz0
            have z1 : W2.cell? ⟨w.heap.size, 1, none⟩ = some (.int .i64 0) := cell_of_row _ _ 1 _ _ _ hz0
            have z2 : W2.cell? ⟨w.heap.size, 2, none⟩ = some (.string ⟨#[]⟩) := cell_of_row _ _ 2 _ _ _ hz0
            have z3 : W2.cell? ⟨w.heap.size, 3, none⟩ = some (.string ⟨#[]⟩) := cell_of_row _ _ 3 _ _ _ hz0
            have z4 : W2.cell? ⟨w.heap.size, 4, none⟩ = some (.string ⟨#[]⟩) := cell_of_row _ _ 4 _ _ _ hz0
            have z5 : W2.cell? ⟨w.heap.size, 5, none⟩ = some (.int .i64 0) := cell_of_row _ _ 5 _ _ _ hz0
            have z6 : W2.cell? ⟨w.heap.size, 6, none⟩ = some (.int .u64 0) := cell_of_row _ _ 6 _ _ _ hz0
            have z7 : W2.cell? ⟨w.heap.size, 7, none⟩ = some (.slice none 0 0) := cell_of_row _ _ 7 _ _ _ hz0
            have z8 : W2.cell? ⟨w.heap.size, 8, none⟩ = some (.slice none 0 0) := cell_of_row _ _ 8 _ _ _ hz0
            have zf : ∀ j, W2.frozen? ⟨w.heap.size, j, none⟩ = false := fun j => frozen_of_row W2 (w.heap.size) j _ _ hz0
            go_wp2
            exact tgt_ret (W := setOp W2 w.heap.size (opBk 2 t) (.slice none 0 0) (.slice none 0 0)) Tryz.results86 rfl rfl (setOp_same hz0 rfl) ⟨opBk 2 t, .slice none 0 0, true, rfl, RowZ.nil _ _ _ _, rfl, (fun _ => opn_bk (by decide) (by decide) hts), setOp_low hb (Nat.le_refl _) _ _ _, fun o ho => ⟨rfl, HT.out o ho⟩⟩
          have g2 : (how.toList == [68, 69, 76, 69, 84, 69]) = false := by rw [q_of]; exact decide_eq_false m2
          have HN : Hid (∀ o, ¬ TarG how s o) := fun o ho => tar_nobk (HJ.out o ho) (H6.out o ho) HC.out m1 m2
          clear m1 m2
          have z0 : W2.cell? ⟨w.heap.size, 0, none⟩ = some (.int .u64 0) := cell_of_row _ _ 0 _ _ _ hz0
          have z1 : W2.cell? ⟨w.heap.size, 1, none⟩ = some (.int .i64 0) := cell_of_row _ _ 1 _ _ _ hz0
          have z2 : W2.cell? ⟨w.heap.size, 2, none⟩ = some (.string ⟨#[]⟩) := cell_of_row _ _ 2 _ _ _ hz0
          have z3 : W2.cell? ⟨w.heap.size, 3, none⟩ = some (.string ⟨#[]⟩) := cell_of_row _ _ 3 _ _ _ hz0
          have z4 : W2.cell? ⟨w.heap.size, 4, none⟩ = some (.string ⟨#[]⟩) := cell_of_row _ _ 4 _ _ _ hz0
          have z5 : W2.cell? ⟨w.heap.size, 5, none⟩ = some (.int .i64 0) := cell_of_row _ _ 5 _ _ _ hz0
          have z6 : W2.cell? ⟨w.heap.size, 6, none⟩ = some (.int .u64 0) := cell_of_row _ _ 6 _ _ _ hz0
          have z7 : W2.cell? ⟨w.heap.size, 7, none⟩ = some (.slice none 0 0) := cell_of_row _ _ 7 _ _ _ hz0
          have z8 : W2.cell? ⟨w.heap.size, 8, none⟩ = some (.slice none 0 0) := cell_of_row _ _ 8 _ _ _ hz0
          have zf : ∀ j, W2.frozen? ⟨w.heap.size, j, none⟩ = false := fun j => frozen_of_row W2 (w.heap.size) j _ _ hz0
          go_wp2
          exact tgt_ret (W := setOp W2 w.heap.size zeroO (.slice none 0 0) (.slice none 0 0)) Tryz.results86 rfl rfl (setOp_same hz0 rfl) (tgt_no (setOp_low hb (Nat.le_refl _) _ _ _) HN.out)
        | some q =>
          obtain ⟨b2, r2⟩ := q
          obtain rfl := he.out.trans (until_some hc)
          have hz2 := cutO_size hc
          have hz3 : b2.size ≤ 65536 := by omega
          have HC := Lib.hid hc
          clear hc he
          obtain ⟨k, kb, hke, hkz, hkt⟩ := unesc_tell r2
          have hkz2 : k.size ≤ 65536 := by omega
          have HKP : Hid (∀ W, Calls Tryz.prog 18 #[.string r2] W fun e w' => e = .returned (.tuple #[.string k, .bool kb]) ∧ Below W.heap.size W w') := fun W => by rw [← hke]; exact unescapeR_any r2 W (by omega)
          have HTK := Lib.hid hkt
          clear hke hkz hkt hz2
          go_wp2_with fail
          refine (HKP.out _).mono ?_
          rintro e W3 ⟨rfl, hb1⟩
          have hz0 : W3.heap[w.heap.size]? = some (.cells #[.int .u64 0, .int .i64 0, .string ⟨#[]⟩, .string ⟨#[]⟩, .string ⟨#[]⟩, .int .i64 0, .int .u64 0, .slice none 0 0, .slice none 0 0] 26 (0, 0)) := (hb1.block _ hsz).trans hz0
          have hb := hb.trans (hb1.mono hb.size)
          have hsz : w.heap.size < W3.heap.size := lt_of_at hz0
          clear hb1 HKP
          by_cases m3 : how = bPUT
          · have g3 : (how.toList == [80, 85, 84]) = true := by rw [q_of]; exact decide_eq_true m3
            have HT : Hid (∀ o, TarG how s o → kb = true ∧ opKy 3 b2 k = o) := fun o ho => tar_ky (HJ.out o ho) (H6.out o ho) HC.out HTK.out (.inl ⟨rfl, m3⟩)
            clear m3
            go_upto_region 29 with fail
            obtain ⟨W4, hW4, hk1, hz4, hb4⟩ := nb_block w W3 #[.int .u64 0, .int .i64 3, .string b2, .string k, .string ⟨#[]⟩, .int .i64 0, .int .u64 0, .slice none 0 0, .slice none 0 0] hz0 hb
            rw [← hW4]
            clear hW4 hz0 hb
            have hz0 := hz4
            have hb := hb4
            clear hz4 hb4
            have k0 : W4.cell? ⟨W3.heap.size, 0, none⟩ = some (.int .u64 0) := cell_of_row _ _ 0 _ _ _ hk1
            have k1 : W4.cell? ⟨W3.heap.size, 1, none⟩ = some (.int .i64 3) := cell_of_row _ _ 1 _ _ _ hk1
            have k2 : W4.cell? ⟨W3.heap.size, 2, none⟩ = some (.string b2) := cell_of_row _ _ 2 _ _ _ hk1
            have k3 : W4.cell? ⟨W3.heap.size, 3, none⟩ = some (.string k) := cell_of_row _ _ 3 _ _ _ hk1
            have k4 : W4.cell? ⟨W3.heap.size, 4, none⟩ = some (.string ⟨#[]⟩) := cell_of_row _ _ 4 _ _ _ hk1
            have k5 : W4.cell? ⟨W3.heap.size, 5, none⟩ = some (.int .i64 0) := cell_of_row _ _ 5 _ _ _ hk1
            have k6 : W4.cell? ⟨W3.heap.size, 6, none⟩ = some (.int .u64 0) := cell_of_row _ _ 6 _ _ _ hk1
            have k7 : W4.cell? ⟨W3.heap.size, 7, none⟩ = some (.slice none 0 0) := cell_of_row _ _ 7 _ _ _ hk1
            have k8 : W4.cell? ⟨W3.heap.size, 8, none⟩ = some (.slice none 0 0) := cell_of_row _ _ 8 _ _ _ hk1
            have kf : ∀ j, W4.frozen? ⟨W3.heap.size, j, none⟩ = false := fun j => frozen_of_row W4 (W3.heap.size) j _ _ hk1
            have z0 : W4.cell? ⟨w.heap.size, 0, none⟩ = some (.int .u64 0) := cell_of_row _ _ 0 _ _ _ hz0
            have z1 : W4.cell? ⟨w.heap.size, 1, none⟩ = some (.int .i64 0) := cell_of_row _ _ 1 _ _ _ hz0
            have z2 : W4.cell? ⟨w.heap.size, 2, none⟩ = some (.string ⟨#[]⟩) := cell_of_row _ _ 2 _ _ _ hz0
            have z3 : W4.cell? ⟨w.heap.size, 3, none⟩ = some (.string ⟨#[]⟩) := cell_of_row _ _ 3 _ _ _ hz0
            have z4 : W4.cell? ⟨w.heap.size, 4, none⟩ = some (.string ⟨#[]⟩) := cell_of_row _ _ 4 _ _ _ hz0
            have z5 : W4.cell? ⟨w.heap.size, 5, none⟩ = some (.int .i64 0) := cell_of_row _ _ 5 _ _ _ hz0
            have z6 : W4.cell? ⟨w.heap.size, 6, none⟩ = some (.int .u64 0) := cell_of_row _ _ 6 _ _ _ hz0
            have z7 : W4.cell? ⟨w.heap.size, 7, none⟩ = some (.slice none 0 0) := cell_of_row _ _ 7 _ _ _ hz0
            have z8 : W4.cell? ⟨w.heap.size, 8, none⟩ = some (.slice none 0 0) := cell_of_row _ _ 8 _ _ _ hz0
            have zf : ∀ j, W4.frozen? ⟨w.heap.size, j, none⟩ = false := fun j => frozen_of_row W4 (w.heap.size) j _ _ hz0
            go_wp2
            exact tgt_ret (W := setOp W4 w.heap.size (opKy 3 b2 k) (.slice none 0 0) (.slice none 0 0)) Tryz.results86 rfl rfl (setOp_same hz0 rfl) ⟨opKy 3 b2 k, .slice none 0 0, kb, rfl, RowZ.nil _ _ _ _, rfl, (fun _ => opn_ky (by decide) (by decide) hz3 hkz2), setOp_low hb (Nat.le_refl _) _ _ _, HT.out⟩
          have g3 : (how.toList == [80, 85, 84]) = false := by rw [q_of]; exact decide_eq_false m3
          by_cases m4 : how = bGET
          · have g4 : (how.toList == [71, 69, 84]) = true := by rw [q_of]; exact decide_eq_true m4
            have HT : Hid (∀ o, TarG how s o → kb = true ∧ opKy 4 b2 k = o) := fun o ho => tar_ky (HJ.out o ho) (H6.out o ho) HC.out HTK.out (.inr (.inl ⟨rfl, m4⟩))
            clear m3 m4
            go_upto_region 29 with fail
            obtain ⟨W4, hW4, hk1, hz4, hb4⟩ := nb_block w W3 #[.int .u64 0, .int .i64 4, .string b2, .string k, .string ⟨#[]⟩, .int .i64 0, .int .u64 0, .slice none 0 0, .slice none 0 0] hz0 hb
            rw [← hW4]
            clear hW4 hz0 hb
            have hz0 := hz4
            have hb := hb4
            clear hz4 hb4
            have k0 : W4.cell? ⟨W3.heap.size, 0, none⟩ = some (.int .u64 0) := cell_of_row _ _ 0 _ _ _ hk1
            have k1 : W4.cell? ⟨W3.heap.size, 1, none⟩ = some (.int .i64 4) := cell_of_row _ _ 1 _ _ _ hk1
            have k2 : W4.cell? ⟨W3.heap.size, 2, none⟩ = some (.string b2) := cell_of_row _ _ 2 _ _ _ hk1
            have k3 : W4.cell? ⟨W3.heap.size, 3, none⟩ = some (.string k) := cell_of_row _ _ 3 _ _ _ hk1
            have k4 : W4.cell? ⟨W3.heap.size, 4, none⟩ = some (.string ⟨#[]⟩) := cell_of_row _ _ 4 _ _ _ hk1
            have k5 : W4.cell? ⟨W3.heap.size, 5, none⟩ = some (.int .i64 0) := cell_of_row _ _ 5 _ _ _ hk1
            have k6 : W4.cell? ⟨W3.heap.size, 6, none⟩ = some (.int .u64 0) := cell_of_row _ _ 6 _ _ _ hk1
            have k7 : W4.cell? ⟨W3.heap.size, 7, none⟩ = some (.slice none 0 0) := cell_of_row _ _ 7 _ _ _ hk1
            have k8 : W4.cell? ⟨W3.heap.size, 8, none⟩ = some (.slice none 0 0) := cell_of_row _ _ 8 _ _ _ hk1
            have kf : ∀ j, W4.frozen? ⟨W3.heap.size, j, none⟩ = false := fun j => frozen_of_row W4 (W3.heap.size) j _ _ hk1
            have z0 : W4.cell? ⟨w.heap.size, 0, none⟩ = some (.int .u64 0) := cell_of_row _ _ 0 _ _ _ hz0
            have z1 : W4.cell? ⟨w.heap.size, 1, none⟩ = some (.int .i64 0) := cell_of_row _ _ 1 _ _ _ hz0
            have z2 : W4.cell? ⟨w.heap.size, 2, none⟩ = some (.string ⟨#[]⟩) := cell_of_row _ _ 2 _ _ _ hz0
            have z3 : W4.cell? ⟨w.heap.size, 3, none⟩ = some (.string ⟨#[]⟩) := cell_of_row _ _ 3 _ _ _ hz0
            have z4 : W4.cell? ⟨w.heap.size, 4, none⟩ = some (.string ⟨#[]⟩) := cell_of_row _ _ 4 _ _ _ hz0
            have z5 : W4.cell? ⟨w.heap.size, 5, none⟩ = some (.int .i64 0) := cell_of_row _ _ 5 _ _ _ hz0
            have z6 : W4.cell? ⟨w.heap.size, 6, none⟩ = some (.int .u64 0) := cell_of_row _ _ 6 _ _ _ hz0
            have z7 : W4.cell? ⟨w.heap.size, 7, none⟩ = some (.slice none 0 0) := cell_of_row _ _ 7 _ _ _ hz0
            have z8 : W4.cell? ⟨w.heap.size, 8, none⟩ = some (.slice none 0 0) := cell_of_row _ _ 8 _ _ _ hz0
            have zf : ∀ j, W4.frozen? ⟨w.heap.size, j, none⟩ = false := fun j => frozen_of_row W4 (w.heap.size) j _ _ hz0
            go_wp2
            exact tgt_ret (W := setOp W4 w.heap.size (opKy 4 b2 k) (.slice none 0 0) (.slice none 0 0)) Tryz.results86 rfl rfl (setOp_same hz0 rfl) ⟨opKy 4 b2 k, .slice none 0 0, kb, rfl, RowZ.nil _ _ _ _, rfl, (fun _ => opn_ky (by decide) (by decide) hz3 hkz2), setOp_low hb (Nat.le_refl _) _ _ _, HT.out⟩
          have g4 : (how.toList == [71, 69, 84]) = false := by rw [q_of]; exact decide_eq_false m4
          by_cases m5 : how = bDELETE
          · have g5 : (how.toList == [68, 69, 76, 69, 84, 69]) = true := by rw [q_of]; exact decide_eq_true m5
            have HT : Hid (∀ o, TarG how s o → kb = true ∧ opKy 5 b2 k = o) := fun o ho => tar_ky (HJ.out o ho) (H6.out o ho) HC.out HTK.out (.inr (.inr (.inl ⟨rfl, m5⟩)))
            clear m3 m4 m5
            go_upto_region 29 with fail
            obtain ⟨W4, hW4, hk1, hz4, hb4⟩ := nb_block w W3 #[.int .u64 0, .int .i64 5, .string b2, .string k, .string ⟨#[]⟩, .int .i64 0, .int .u64 0, .slice none 0 0, .slice none 0 0] hz0 hb
            rw [← hW4]
            clear hW4 hz0 hb
            have hz0 := hz4
            have hb := hb4
            clear hz4 hb4
            have k0 : W4.cell? ⟨W3.heap.size, 0, none⟩ = some (.int .u64 0) := cell_of_row _ _ 0 _ _ _ hk1
            have k1 : W4.cell? ⟨W3.heap.size, 1, none⟩ = some (.int .i64 5) := cell_of_row _ _ 1 _ _ _ hk1
            have k2 : W4.cell? ⟨W3.heap.size, 2, none⟩ = some (.string b2) := cell_of_row _ _ 2 _ _ _ hk1
            have k3 : W4.cell? ⟨W3.heap.size, 3, none⟩ = some (.string k) := cell_of_row _ _ 3 _ _ _ hk1
            have k4 : W4.cell? ⟨W3.heap.size, 4, none⟩ = some (.string ⟨#[]⟩) := cell_of_row _ _ 4 _ _ _ hk1
            have k5 : W4.cell? ⟨W3.heap.size, 5, none⟩ = some (.int .i64 0) := cell_of_row _ _ 5 _ _ _ hk1
            have k6 : W4.cell? ⟨W3.heap.size, 6, none⟩ = some (.int .u64 0) := cell_of_row _ _ 6 _ _ _ hk1
            have k7 : W4.cell? ⟨W3.heap.size, 7, none⟩ = some (.slice none 0 0) := cell_of_row _ _ 7 _ _ _ hk1
            have k8 : W4.cell? ⟨W3.heap.size, 8, none⟩ = some (.slice none 0 0) := cell_of_row _ _ 8 _ _ _ hk1
            have kf : ∀ j, W4.frozen? ⟨W3.heap.size, j, none⟩ = false := fun j => frozen_of_row W4 (W3.heap.size) j _ _ hk1
            have z0 : W4.cell? ⟨w.heap.size, 0, none⟩ = some (.int .u64 0) := cell_of_row _ _ 0 _ _ _ hz0
            have z1 : W4.cell? ⟨w.heap.size, 1, none⟩ = some (.int .i64 0) := cell_of_row _ _ 1 _ _ _ hz0
            have z2 : W4.cell? ⟨w.heap.size, 2, none⟩ = some (.string ⟨#[]⟩) := cell_of_row _ _ 2 _ _ _ hz0
            have z3 : W4.cell? ⟨w.heap.size, 3, none⟩ = some (.string ⟨#[]⟩) := cell_of_row _ _ 3 _ _ _ hz0
            have z4 : W4.cell? ⟨w.heap.size, 4, none⟩ = some (.string ⟨#[]⟩) := cell_of_row _ _ 4 _ _ _ hz0
            have z5 : W4.cell? ⟨w.heap.size, 5, none⟩ = some (.int .i64 0) := cell_of_row _ _ 5 _ _ _ hz0
            have z6 : W4.cell? ⟨w.heap.size, 6, none⟩ = some (.int .u64 0) := cell_of_row _ _ 6 _ _ _ hz0
            have z7 : W4.cell? ⟨w.heap.size, 7, none⟩ = some (.slice none 0 0) := cell_of_row _ _ 7 _ _ _ hz0
            have z8 : W4.cell? ⟨w.heap.size, 8, none⟩ = some (.slice none 0 0) := cell_of_row _ _ 8 _ _ _ hz0
            have zf : ∀ j, W4.frozen? ⟨w.heap.size, j, none⟩ = false := fun j => frozen_of_row W4 (w.heap.size) j _ _ hz0
            go_wp2
            exact tgt_ret (W := setOp W4 w.heap.size (opKy 5 b2 k) (.slice none 0 0) (.slice none 0 0)) Tryz.results86 rfl rfl (setOp_same hz0 rfl) ⟨opKy 5 b2 k, .slice none 0 0, kb, rfl, RowZ.nil _ _ _ _, rfl, (fun _ => opn_ky (by decide) (by decide) hz3 hkz2), setOp_low hb (Nat.le_refl _) _ _ _, HT.out⟩
          have g5 : (how.toList == [68, 69, 76, 69, 84, 69]) = false := by rw [q_of]; exact decide_eq_false m5
          by_cases m7 : how = bPOST
          · have g7 : (how.toList == [80, 79, 83, 84]) = true := by rw [q_of]; exact decide_eq_true m7
            have HT : Hid (∀ o, TarG how s o → kb = true ∧ opKy 7 b2 k = o) := fun o ho => tar_ky (HJ.out o ho) (H6.out o ho) HC.out HTK.out (.inr (.inr (.inr ⟨rfl, m7⟩)))
            clear m3 m4 m5 m7
            go_upto_region 29 with fail
            obtain ⟨W4, hW4, hk1, hz4, hb4⟩ := nb_block w W3 #[.int .u64 0, .int .i64 7, .string b2, .string k, .string ⟨#[]⟩, .int .i64 0, .int .u64 0, .slice none 0 0, .slice none 0 0] hz0 hb
            rw [← hW4]
            clear hW4 hz0 hb
            have hz0 := hz4
            have hb := hb4
            clear hz4 hb4
            have k0 : W4.cell? ⟨W3.heap.size, 0, none⟩ = some (.int .u64 0) := cell_of_row _ _ 0 _ _ _ hk1
            have k1 : W4.cell? ⟨W3.heap.size, 1, none⟩ = some (.int .i64 7) := cell_of_row _ _ 1 _ _ _ hk1
            have k2 : W4.cell? ⟨W3.heap.size, 2, none⟩ = some (.string b2) := cell_of_row _ _ 2 _ _ _ hk1
            have k3 : W4.cell? ⟨W3.heap.size, 3, none⟩ = some (.string k) := cell_of_row _ _ 3 _ _ _ hk1
            have k4 : W4.cell? ⟨W3.heap.size, 4, none⟩ = some (.string ⟨#[]⟩) := cell_of_row _ _ 4 _ _ _ hk1
            have k5 : W4.cell? ⟨W3.heap.size, 5, none⟩ = some (.int .i64 0) := cell_of_row _ _ 5 _ _ _ hk1
            have k6 : W4.cell? ⟨W3.heap.size, 6, none⟩ = some (.int .u64 0) := cell_of_row _ _ 6 _ _ _ hk1
            have k7 : W4.cell? ⟨W3.heap.size, 7, none⟩ = some (.slice none 0 0) := cell_of_row _ _ 7 _ _ _ hk1
            have k8 : W4.cell? ⟨W3.heap.size, 8, none⟩ = some (.slice none 0 0) := cell_of_row _ _ 8 _ _ _ hk1
            have kf : ∀ j, W4.frozen? ⟨W3.heap.size, j, none⟩ = false := fun j => frozen_of_row W4 (W3.heap.size) j _ _ hk1
            have z0 : W4.cell? ⟨w.heap.size, 0, none⟩ = some (.int .u64 0) := cell_of_row _ _ 0 _ _ _ hz0
            have z1 : W4.cell? ⟨w.heap.size, 1, none⟩ = some (.int .i64 0) := cell_of_row _ _ 1 _ _ _ hz0
            have z2 : W4.cell? ⟨w.heap.size, 2, none⟩ = some (.string ⟨#[]⟩) := cell_of_row _ _ 2 _ _ _ hz0
            have z3 : W4.cell? ⟨w.heap.size, 3, none⟩ = some (.string ⟨#[]⟩) := cell_of_row _ _ 3 _ _ _ hz0
            have z4 : W4.cell? ⟨w.heap.size, 4, none⟩ = some (.string ⟨#[]⟩) := cell_of_row _ _ 4 _ _ _ hz0
            have z5 : W4.cell? ⟨w.heap.size, 5, none⟩ = some (.int .i64 0) := cell_of_row _ _ 5 _ _ _ hz0
            have z6 : W4.cell? ⟨w.heap.size, 6, none⟩ = some (.int .u64 0) := cell_of_row _ _ 6 _ _ _ hz0
            have z7 : W4.cell? ⟨w.heap.size, 7, none⟩ = some (.slice none 0 0) := cell_of_row _ _ 7 _ _ _ hz0
            have z8 : W4.cell? ⟨w.heap.size, 8, none⟩ = some (.slice none 0 0) := cell_of_row _ _ 8 _ _ _ hz0
            have zf : ∀ j, W4.frozen? ⟨w.heap.size, j, none⟩ = false := fun j => frozen_of_row W4 (w.heap.size) j _ _ hz0
            go_wp2
            exact tgt_ret (W := setOp W4 w.heap.size (opKy 7 b2 k) (.slice none 0 0) (.slice none 0 0)) Tryz.results86 rfl rfl (setOp_same hz0 rfl) ⟨opKy 7 b2 k, .slice none 0 0, kb, rfl, RowZ.nil _ _ _ _, rfl, (fun _ => opn_ky (by decide) (by decide) hz3 hkz2), setOp_low hb (Nat.le_refl _) _ _ _, HT.out⟩
          have g7 : (how.toList == [80, 79, 83, 84]) = false := by rw [q_of]; exact decide_eq_false m7
          have HN : Hid (∀ o, TarG how s o → false = true ∧ opKy 0 b2 k = o) := fun o ho => (tar_noky (HJ.out o ho) (H6.out o ho) HC.out m3 m4 m5 m7).elim
          clear m3 m4 m5 m7
          go_upto_region 29 with fail
          obtain ⟨W4, hW4, hk1, hz4, hb4⟩ := nb_block w W3 #[.int .u64 0, .int .i64 0, .string b2, .string k, .string ⟨#[]⟩, .int .i64 0, .int .u64 0, .slice none 0 0, .slice none 0 0] hz0 hb
          rw [← hW4]
          clear hW4 hz0 hb
          have hz0 := hz4
          have hb := hb4
          clear hz4 hb4
          have k0 : W4.cell? ⟨W3.heap.size, 0, none⟩ = some (.int .u64 0) := cell_of_row _ _ 0 _ _ _ hk1
          have k1 : W4.cell? ⟨W3.heap.size, 1, none⟩ = some (.int .i64 0) := cell_of_row _ _ 1 _ _ _ hk1
          have k2 : W4.cell? ⟨W3.heap.size, 2, none⟩ = some (.string b2) := cell_of_row _ _ 2 _ _ _ hk1
          have k3 : W4.cell? ⟨W3.heap.size, 3, none⟩ = some (.string k) := cell_of_row _ _ 3 _ _ _ hk1
          have k4 : W4.cell? ⟨W3.heap.size, 4, none⟩ = some (.string ⟨#[]⟩) := cell_of_row _ _ 4 _ _ _ hk1
          have k5 : W4.cell? ⟨W3.heap.size, 5, none⟩ = some (.int .i64 0) := cell_of_row _ _ 5 _ _ _ hk1
          have k6 : W4.cell? ⟨W3.heap.size, 6, none⟩ = some (.int .u64 0) := cell_of_row _ _ 6 _ _ _ hk1
          have k7 : W4.cell? ⟨W3.heap.size, 7, none⟩ = some (.slice none 0 0) := cell_of_row _ _ 7 _ _ _ hk1
          have k8 : W4.cell? ⟨W3.heap.size, 8, none⟩ = some (.slice none 0 0) := cell_of_row _ _ 8 _ _ _ hk1
          have kf : ∀ j, W4.frozen? ⟨W3.heap.size, j, none⟩ = false := fun j => frozen_of_row W4 (W3.heap.size) j _ _ hk1
          have z0 : W4.cell? ⟨w.heap.size, 0, none⟩ = some (.int .u64 0) := cell_of_row _ _ 0 _ _ _ hz0
          have z1 : W4.cell? ⟨w.heap.size, 1, none⟩ = some (.int .i64 0) := cell_of_row _ _ 1 _ _ _ hz0
          have z2 : W4.cell? ⟨w.heap.size, 2, none⟩ = some (.string ⟨#[]⟩) := cell_of_row _ _ 2 _ _ _ hz0
          have z3 : W4.cell? ⟨w.heap.size, 3, none⟩ = some (.string ⟨#[]⟩) := cell_of_row _ _ 3 _ _ _ hz0
          have z4 : W4.cell? ⟨w.heap.size, 4, none⟩ = some (.string ⟨#[]⟩) := cell_of_row _ _ 4 _ _ _ hz0
          have z5 : W4.cell? ⟨w.heap.size, 5, none⟩ = some (.int .i64 0) := cell_of_row _ _ 5 _ _ _ hz0
          have z6 : W4.cell? ⟨w.heap.size, 6, none⟩ = some (.int .u64 0) := cell_of_row _ _ 6 _ _ _ hz0
          have z7 : W4.cell? ⟨w.heap.size, 7, none⟩ = some (.slice none 0 0) := cell_of_row _ _ 7 _ _ _ hz0
          have z8 : W4.cell? ⟨w.heap.size, 8, none⟩ = some (.slice none 0 0) := cell_of_row _ _ 8 _ _ _ hz0
          have zf : ∀ j, W4.frozen? ⟨w.heap.size, j, none⟩ = false := fun j => frozen_of_row W4 (w.heap.size) j _ _ hz0
          go_wp2
          exact tgt_ret (W := setOp W4 w.heap.size (opKy 0 b2 k) (.slice none 0 0) (.slice none 0 0)) Tryz.results86 rfl rfl (setOp_same hz0 rfl) ⟨opKy 0 b2 k, .slice none 0 0, false, rfl, RowZ.nil _ _ _ _, rfl, (fun e => by cases e), setOp_low hb (Nat.le_refl _) _ _ _, HN.out⟩

theorem targetR_any (how s : ByteArray) (w : World) (hs : s.size ≤ 65536) : Calls Tryz.prog 86 #[.string how, .string s] w (TgtR (TarG how s) 65536 w) := by
  by_cases hu : 9 < s.size ∧ s.extract 0 9 = sUpload
  · exact targetR_up how s w hs hu.1 hu.2
  by_cases hx : ∃ t, s = sSlash ++ t
  · exact targetR_rest how s w hs hu hx
  · exact targetR_no how s w hs hu hx
end Go.Proofs.YtnlooggibopknaaGreatDoor
