/- The walk of the parser's upload: the rest; at any text. -/
import Derived.Test.YtnlooggibopknaaGreatDoorW21
import Derived.Test.YtnlooggibopknaaGreatDoorW14
namespace Go.Proofs.YtnlooggibopknaaGreatDoor
open Go.RowKit Go.Sort

theorem q_of (how : ByteArray) (l : List UInt8) : (how.toList == l) = decide (how = mkB l) := by
  rw [ByteArray.toList_eq]
  by_cases h : how = mkB l
  · subst h; simp [mkB]
  · have : ¬ how.data.toList = l := fun e => h (by rw [← e, mkB_of])
    simp [h, this]

set_option maxHeartbeats 4000000 in
set_option maxRecDepth 1000000 in
theorem upload_none (how s : ByteArray) (w0 w : World) (pb u : Nat) (hL : Lib0 w0) (hb : BelowX pb w0.heap.size w0 w) (hpb : 8 ≤ pb) (hs : s.size ≤ 1073741824) (hP : PIs w pb zeroO (.slice none 0 0) (.slice none 0 0))
    (hu : unhexL (upId s).data.toList = some u) (h16 : 16 < s.size) (h1 : ¬ (hp (upRest s) sPart = true ∧ how = bPUT)) (h2 : ¬ (hp (upRest s) sParts = true ∧ how = bPOST)) : Calls Tryz.prog 103 #[.pointer (some ⟨pb, 0, none⟩), .string how, .string s] w (PrE (uploadF how s) w0 pb) := by
  have he : upId s = s.extract 0 16 := by unfold upId; rw [if_pos h16]
  have he2 : upRest s = s.extract 16 s.size := by unfold upRest; rw [if_pos h16]
  have hrz : (s.extract 16 s.size).size ≠ 0 := by rw [ByteArray.size_extract]; omega
  have HF : Hid (uploadF how s = none) := by
    unfold Hid
    rw [uploadF_some hu]
    unfold uploadU
    rw [if_neg h1, if_neg h2, if_neg (by rw [he2]; rintro ⟨h, _⟩; exact hrz h)]
  have HU : Hid (∀ n, Calls Tryz.prog 83 #[.string (s.extract 0 16)] (w.drewN n) _) := fun n => he ▸ un_yes (upId_size s hs) (hL.belowX hpb (hb.drewN n)) hu
  rw [he2] at h1 h2
  have hr : ((s.extract 16 s.size).toList == []) = false := by
    rw [beq_eq_false_iff_ne]
    exact fun e => hrz (tl_nil.1 e)
  have hr2 : (s.extract 16 s.size).toList.isEmpty = false := by
    cases h : (s.extract 16 s.size).toList with
    | nil => exact absurd (tl_nil.1 h) hrz
    | cons a b => rfl
  have hr3 : ¬ (s.extract 16 s.size).toList = [] := fun e => hrz (tl_nil.1 e)
  have g1 : hp (s.extract 16 s.size) ⟨#[38, 112, 97, 114, 116, 61]⟩ = false ∨ (hp (s.extract 16 s.size) ⟨#[38, 112, 97, 114, 116, 61]⟩ = true ∧ (how.toList == [80, 85, 84]) = false) := by
    cases h : hp (s.extract 16 s.size) ⟨#[38, 112, 97, 114, 116, 61]⟩ with
    | false => exact .inl rfl
    | true => exact .inr ⟨rfl, by rw [q_of]; exact decide_eq_false (fun e => h1 ⟨h, e⟩)⟩
  have g2 : hp (s.extract 16 s.size) ⟨#[38, 112, 97, 114, 116, 115, 61]⟩ = false ∨ (hp (s.extract 16 s.size) ⟨#[38, 112, 97, 114, 116, 115, 61]⟩ = true ∧ (how.toList == [80, 79, 83, 84]) = false) := by
    cases h : hp (s.extract 16 s.size) ⟨#[38, 112, 97, 114, 116, 115, 61]⟩ with
    | false => exact .inl rfl
    | true => exact .inr ⟨rfl, by rw [q_of]; exact decide_eq_false (fun e => h2 ⟨h, e⟩)⟩
  have hi : (16 : Int) < (s.size : Int) := by omega
  have hi2 : (16 : Int) ≤ (s.size : Int) := by omega
  have hi3 : 16 ≤ s.size := by omega
  have HB := Lib.hid hb
  have HP := Lib.hid hP
  have hlt := hP.lt
  clear he he2 hu hb hP h1 h2
  rcases g1 with g1 | ⟨g1, g1'⟩ <;> rcases g2 with g2 | ⟨g2, g2'⟩
  all_goals
    go_enter Tryz.func103, Tryz.ntmps103
    go_upto_region 2 with fail
    go_quiet (fail)
    go_wp2_with (go_at_call 83; refine (HU.out _).mono ?_; rintro e w1 ⟨rfl, hb1⟩)
    have hP1 : PIs w1 pb zeroO (.slice none 0 0) (.slice none 0 0) := PIs.below (w := w.drewN nq) HP.out hb1 hlt
    have hB1 : BelowX pb w0.heap.size w0 w1 := (HB.out.drewN nq).trans (hb1.mono HB.out.size)
    have c6 := hP1.cell 6 _ rfl
    have f6 := hP1.fz 6
    have HB1 := Lib.hid hB1
    clear hb1 hP1 hB1
    go_wp2_with fail
    refine (must_yes _).mono ?_
    rintro e w' ⟨rfl, rfl⟩
    go_wp2_with fail
    have HB2 : Hid (BelowX pb w0.heap.size w0 (w1.setCell ⟨pb, 6, none⟩ (.int .u64 u))) := HB1.out.setP _ _
    generalize w1.setCell ⟨pb, 6, none⟩ (.int .u64 (u : Int)) = w2 at *
    clear c6 f6 HB1
    refine (cutPrefix_any _ _ _).mono ?_
    rintro e w' ⟨rfl, rfl⟩
    go_wp2_with (first | (go_at_call 82; refine (cutPrefix_any _ _ _).mono ?_; rintro e w' ⟨rfl, rfl⟩) | (go_at_call 47; refine (must_no _).mono ?_; rintro e w' ⟨rfl, rfl⟩))
    exact ⟨rfl, HB2.out, .inl ⟨HF.out, rfl⟩⟩

set_option maxHeartbeats 4000000 in
set_option maxRecDepth 1000000 in
theorem upload_short (how s : ByteArray) (w0 w : World) (pb u : Nat) (hL : Lib0 w0) (hb : BelowX pb w0.heap.size w0 w) (hpb : 8 ≤ pb) (hs : s.size ≤ 1073741824) (hP : PIs w pb zeroO (.slice none 0 0) (.slice none 0 0))
    (hu : unhexL (upId s).data.toList = some u) (h16 : ¬ 16 < s.size) : Calls Tryz.prog 103 #[.pointer (some ⟨pb, 0, none⟩), .string how, .string s] w (PrE (uploadF how s) w0 pb) := by
  have he : upId s = s := by unfold upId; rw [if_neg h16]
  have he2 : upRest s = ⟨#[]⟩ := by unfold upRest; rw [if_neg h16]
  have n1 : hp ⟨#[]⟩ sPart = false := rfl
  have n2 : hp ⟨#[]⟩ sParts = false := rfl
  have HF : Hid (uploadF how s = if how = bDELETE then some (opAbort u) else none) := by
    unfold Hid
    rw [uploadF_some hu]
    unfold uploadU
    rw [he2, if_neg (by rw [n1]; rintro ⟨h, _⟩; cases h), if_neg (by rw [n2]; rintro ⟨h, _⟩; cases h)]
    by_cases h : how = bDELETE
    · rw [if_pos ⟨rfl, h⟩, if_pos h]
    · rw [if_neg (by rintro ⟨_, h'⟩; exact h h'), if_neg h]
  have HU : Hid (Calls Tryz.prog 83 #[.string s] w _) := he ▸ un_yes (upId_size s hs) (hL.belowX hpb hb) hu
  have g1 : hp ⟨#[]⟩ ⟨#[38, 112, 97, 114, 116, 61]⟩ = false := rfl
  have g2 : hp ⟨#[]⟩ ⟨#[38, 112, 97, 114, 116, 115, 61]⟩ = false := rfl
  have hi : ¬ (16 : Int) < (s.size : Int) := by omega
  have HB := Lib.hid hb
  have HP := Lib.hid hP
  have hlt := hP.lt
  have g3 : (how = bDELETE ∧ (how.toList == [68, 69, 76, 69, 84, 69]) = true) ∨ (¬ how = bDELETE ∧ (how.toList == [68, 69, 76, 69, 84, 69]) = false) := by
    rw [q_of]
    by_cases h : how = bDELETE
    · exact .inl ⟨h, decide_eq_true h⟩
    · exact .inr ⟨h, decide_eq_false h⟩
  clear he he2 hu hb hP n1 n2
  rcases g3 with ⟨hd, g3⟩ | ⟨hd, g3⟩
  all_goals
    have HD := Lib.hid hd
    clear hd
    go_enter Tryz.func103, Tryz.ntmps103
    go_wp2_with (go_at_call 83; refine HU.out.mono ?_; rintro e w1 ⟨rfl, hb1⟩)
    have hP1 : PIs w1 pb zeroO (.slice none 0 0) (.slice none 0 0) := PIs.below HP.out hb1 hlt
    have hB1 : BelowX pb w0.heap.size w0 w1 := HB.out.trans (hb1.mono HB.out.size)
    have c6 := hP1.cell 6 _ rfl
    have f6 := hP1.fz 6
    have HP1 := Lib.hid hP1
    have HB1 := Lib.hid hB1
    clear hb1 hP1 hB1
    go_wp2_with fail
    refine (must_yes _).mono ?_
    rintro e w' ⟨rfl, rfl⟩
    go_wp2_with fail
    have hP2 : PIs (w1.setCell ⟨pb, 6, none⟩ (.int .u64 u)) pb ⟨0, 0, ⟨#[]⟩, ⟨#[]⟩, ⟨#[]⟩, 0, u, [], []⟩ (.slice none 0 0) (.slice none 0 0) := HP1.out.set 6 _ rfl
    have HB2 : Hid (BelowX pb w0.heap.size w0 (w1.setCell ⟨pb, 6, none⟩ (.int .u64 u))) := HB1.out.setP _ _
    generalize w1.setCell ⟨pb, 6, none⟩ (.int .u64 (u : Int)) = w2 at *
    clear c6 f6 HB1 HP1
    have c1 := hP2.cell 1 _ rfl
    have f1 := hP2.fz 1
    have HP2 := Lib.hid hP2
    clear hP2
    refine (cutPrefix_any _ _ _).mono ?_
    rintro e w' ⟨rfl, rfl⟩
    go_wp2_with (go_at_call 82; refine (cutPrefix_any _ _ _).mono ?_; rintro e w' ⟨rfl, rfl⟩)
  · refine (must_yes _).mono ?_
    rintro e w' ⟨rfl, rfl⟩
    go_wp2_with fail
    go_end0
    exact ⟨HB2.out.setP _ _, .inr ⟨opAbort u, .slice none 0 0, by rw [HF.out, if_pos HD.out], rfl, HP2.out.set 1 _ rfl, RowX.nil _ _ _ _⟩⟩
  · refine (must_no _).mono ?_
    rintro e w' ⟨rfl, rfl⟩
    go_wp2_with fail
    exact ⟨rfl, HB2.out, .inl ⟨by rw [HF.out, if_neg HD.out], rfl⟩⟩

theorem upload_any (how s : ByteArray) (w0 w : World) (pb : Nat) (hL : Lib0 w0) (hb : BelowX pb w0.heap.size w0 w) (hpb : 8 ≤ pb) (hs : s.size ≤ 1073741824) (hP : PIs w pb zeroO (.slice none 0 0) (.slice none 0 0)) :
    Calls Tryz.prog 103 #[.pointer (some ⟨pb, 0, none⟩), .string how, .string s] w (PrE (uploadF how s) w0 pb) := by
  cases hu : unhexL (upId s).data.toList with
  | none => exact upload_bad how s w0 w pb hL hb hpb hs hu
  | some u =>
    by_cases h16 : 16 < s.size
    · by_cases h1 : hp (upRest s) sPart = true ∧ how = bPUT
      · exact upload_put how s w0 w pb u hL hb hpb hs hP hu h16 h1.1 h1.2
      by_cases h2 : hp (upRest s) sParts = true ∧ how = bPOST
      · exact upload_post how s w0 w pb u hL hb hpb hs hP hu h16 h2.1 h2.2
      · exact upload_none how s w0 w pb u hL hb hpb hs hP hu h16 h1 h2
    · exact upload_short how s w0 w pb u hL hb hpb hs hP hu h16
end Go.Proofs.YtnlooggibopknaaGreatDoor

/- The walks of text and of the parser's target. -/
namespace Go.Proofs.YtnlooggibopknaaGreatDoor
open Go.RowKit Go.Sort

theorem text_yes (s : ByteArray) (t : List UInt8) (w : World) (hs : s.size ≤ 1073741824) (h : unescL s.data.toList = some t) :
    Calls Tryz.prog 107 #[.string s] w fun e w' => e = .returned (.string (mkB t)) ∧ Below w.heap.size w w' := by
  have hu := unescape_any s w hs
  have he : unescE s = .returned (.tuple #[.string (mkB t), .bool true]) := by unfold unescE; rw [h]; rfl
  rw [he] at hu
  have HU := Lib.hid hu
  clear hu he h
  go_enter Tryz.func107, Tryz.ntmps107
  go_wp2_with (first | (go_at_call 17; refine HU.out.mono ?_; rintro e w' ⟨rfl, hb⟩) | (go_at_call 47; refine (must_yes _).mono ?_; rintro e w' ⟨rfl, rfl⟩))
  go_ret
  exact ⟨rfl, hb⟩
theorem text_no (s : ByteArray) (w : World) (hs : s.size ≤ 1073741824) (h : unescL s.data.toList = none) :
    Calls Tryz.prog 107 #[.string s] w fun e w' => e = badE ∧ Below w.heap.size w w' := by
  have hu := unescape_any s w hs
  have he : unescE s = .returned (.tuple #[.string ⟨#[]⟩, .bool false]) := by unfold unescE; rw [h]
  rw [he] at hu
  have HU := Lib.hid hu
  clear hu he h
  go_enter Tryz.func107, Tryz.ntmps107
  go_wp2_with (first | (go_at_call 17; refine HU.out.mono ?_; rintro e w' ⟨rfl, hb⟩) | (go_at_call 47; refine (must_no _).mono ?_; rintro e w' ⟨rfl, rfl⟩))
  exact ⟨rfl, rfl, hb⟩

theorem cutO_some {s sep a b : ByteArray} (h : cutO s sep = some (a, b)) : Lib.cut s.data.toList sep.data.toList = (a.data.toList, b.data.toList, true) := by
  unfold cutO at h
  split at h
  · rename_i hx
    cases h
    rw [mkB_data, mkB_data, ← hx]
  · cases h
theorem cutO_none {s sep : ByteArray} (h : cutO s sep = none) : (Lib.cut s.data.toList sep.data.toList).2.2 = false := by
  unfold cutO at h
  split at h
  · cases h
  · rename_i hx; simpa using hx
theorem cut_some {s sep a b : ByteArray} {w : World} (hs : s.size ≤ 1073741824) (hL : Lib0 w) (h : cutO s sep = some (a, b)) :
    Calls Tryz.prog 105 #[.string s, .string sep] w fun e w' => e = .returned (.tuple #[.string a, .string b, .bool true]) ∧ Below w.heap.size w w' := by
  obtain ⟨m, hm⟩ := hL.maxlen
  have hC := Tryz.strings_Cut s sep m w (by omega) hm
  rw [cutO_some h] at hC
  exact hC.mono fun _ _ ⟨h1, n, h2⟩ => ⟨h1, h2 ▸ below_drewN (Below.refl _ _) n⟩
theorem cut_none {s sep : ByteArray} {w : World} (hs : s.size ≤ 1073741824) (hL : Lib0 w) (h : cutO s sep = none) :
    Calls Tryz.prog 105 #[.string s, .string sep] w fun e w' => (∃ a b, e = .returned (.tuple #[.string a, .string b, .bool false])) ∧ Below w.heap.size w w' := by
  obtain ⟨m, hm⟩ := hL.maxlen
  have hC := Tryz.strings_Cut s sep m w (by omega) hm
  rw [cutO_none h] at hC
  exact hC.mono fun _ _ ⟨h1, n, h2⟩ => ⟨⟨_, _, h1⟩, h2 ▸ below_drewN (Below.refl _ _) n⟩
theorem cutO_size {s sep a b : ByteArray} (h : cutO s sep = some (a, b)) : a.size ≤ s.size ∧ b.size ≤ s.size := by
  have hs : s.data.toList.length = s.size := Array.length_toList
  have ha : a.data.toList.length = a.size := Array.length_toList
  have hb : b.data.toList.length = b.size := Array.length_toList
  have hc := cutO_some h
  unfold Lib.cut at hc
  split at hc
  · simp only [Prod.mk.injEq] at hc
    rw [← hc.1, List.length_take] at ha
    rw [← hc.2.1, List.length_drop] at hb
    omega
  · simp only [Prod.mk.injEq] at hc
    cases hc.2.2

set_option maxHeartbeats 1000000 in
set_option maxRecDepth 1000000 in
theorem target_up (how s : ByteArray) (w0 w : World) (pb : Nat) (hL : Lib0 w0) (hb : BelowX pb w0.heap.size w0 w) (hpb : 8 ≤ pb) (hs : s.size ≤ 1073741824) (hP : PIs w pb zeroO (.slice none 0 0) (.slice none 0 0)) (h : hp s sUpload = true) :
    Calls Tryz.prog 81 #[.pointer (some ⟨pb, 0, none⟩), .string how, .string s] w (PrE (targetF how s) w0 pb) := by
  have HF : Hid (targetF how s = uploadF how (tp s sUpload)) := by unfold Hid targetF; rw [if_pos h]
  have hp1 : hp s ⟨#[47, 63, 117, 112, 108, 111, 97, 100, 61]⟩ = true := h
  have HU : Hid (Calls Tryz.prog 103 #[.pointer (some ⟨pb, 0, none⟩), .string how, .string (tp s ⟨#[47, 63, 117, 112, 108, 111, 97, 100, 61]⟩)] w (PrE (uploadF how (tp s sUpload)) w0 pb)) :=
    upload_any how _ w0 w pb hL hb hpb (by show (List.toArray _).size ≤ _; rw [List.size_toArray]; exact tp_len _ _ hs) hP
  clear h hP hb
  go_enter Tryz.func81, Tryz.ntmps81
  go_wp2_with (go_at_call 82; refine (cutPrefix_any _ _ _).mono ?_; rintro e w' ⟨rfl, rfl⟩)
  refine HU.out.mono ?_
  rintro e w1 ⟨hb1, ⟨hn, rfl⟩ | ⟨o, pv, ho, rfl, hP1, hR⟩⟩
  · unfold badE
    go_wp2_with fail
    exact ⟨rfl, hb1, .inl ⟨HF.out.trans hn, rfl⟩⟩
  · go_wp2_with fail
    go_end0
    exact ⟨hb1, .inr ⟨o, pv, HF.out.trans ho, rfl, hP1, hR⟩⟩

set_option maxHeartbeats 1000000 in
set_option maxRecDepth 1000000 in
theorem target_bad (how s : ByteArray) (w0 w : World) (pb : Nat) (hL : Lib0 w0) (hb : BelowX pb w0.heap.size w0 w) (hpb : 8 ≤ pb) (hs : s.size ≤ 1073741824) (h : hp s sUpload = false) (hc : cutO s sSlash = none) :
    Calls Tryz.prog 81 #[.pointer (some ⟨pb, 0, none⟩), .string how, .string s] w (PrE (targetF how s) w0 pb) := by
  have HF : Hid (targetF how s = none) := by unfold Hid targetF; rw [if_neg (by rw [h]; decide), hc]; rfl
  have hp1 : hp s ⟨#[47, 63, 117, 112, 108, 111, 97, 100, 61]⟩ = false := h
  have HC : Hid (Calls Tryz.prog 104 #[.string s, .string ⟨#[47]⟩] w fun e w' => e = badE ∧ Below w.heap.size w w') := cut_no s ⟨#[47]⟩ w hs (hL.belowX hpb hb) (cutO_none hc)
  have HB := Lib.hid hb
  clear h hb hc
  go_enter Tryz.func81, Tryz.ntmps81
  go_wp2_with (go_at_call 82; refine (cutPrefix_any _ _ _).mono ?_; rintro e w' ⟨rfl, rfl⟩)
  refine HC.out.mono ?_
  rintro e w1 ⟨rfl, hb1⟩
  unfold badE
  go_wp2_with fail
  exact ⟨rfl, HB.out.trans (hb1.mono HB.out.size), .inl ⟨HF.out, rfl⟩⟩
end Go.Proofs.YtnlooggibopknaaGreatDoor
