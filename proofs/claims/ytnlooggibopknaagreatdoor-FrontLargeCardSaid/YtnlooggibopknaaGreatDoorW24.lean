/- The walk of the parser's target at a key. -/
import Derived.Test.YtnlooggibopknaaGreatDoorW22
import Derived.Test.YtnlooggibopknaaGreatDoorMp
import Derived.StillTailTactics
namespace Go.Proofs.YtnlooggibopknaaGreatDoor
open Go.RowKit Go.Sort

set_option maxHeartbeats 1000000 in
set_option maxRecDepth 1000000 in
theorem target_key (how s s0 s1 name key : ByteArray) (w0 w : World) (pb : Nat) (hL : Lib0 w0) (hb : BelowX pb w0.heap.size w0 w) (hpb : 8 ≤ pb) (hs : s.size ≤ 1073741824) (hP : PIs w pb zeroO (.slice none 0 0) (.slice none 0 0)) (h : hp s sUpload = false) (hc : cutO s sSlash = some (s0, s1))
    (hc2 : cutO s1 sSlash = some (name, key)) (hq : Lib.contains name.data.toList sQ.data.toList = false) :
    Calls Tryz.prog 81 #[.pointer (some ⟨pb, 0, none⟩), .string how, .string s] w (PrE (targetF how s) w0 pb) := by
  have HF : Hid (targetF how s = (unescL key.data.toList).map (opKey how name)) := by
    unfold Hid targetF; rw [if_neg (by rw [h]; decide), hc, Option.bind_some]; unfold slashF; rw [hc2]; simp only [hq]; rfl
  have hp1 : hp s ⟨#[47, 63, 117, 112, 108, 111, 97, 100, 61]⟩ = false := h
  have hz1 := (cutO_size hc).2
  have hz2 := cutO_size hc2
  have HC : Hid (Calls Tryz.prog 104 #[.string s, .string ⟨#[47]⟩] w fun e w' => e = .returned (.tuple #[.string s0, .string s1]) ∧ Below w.heap.size w w') := cut_yes s ⟨#[47]⟩ s0 s1 w hs (hL.belowX hpb hb) (cutO_some hc)
  have HC2 : Hid (∀ W, BelowX pb w0.heap.size w0 W → Calls Tryz.prog 105 #[.string s1, .string ⟨#[47]⟩] W fun e w' => e = .returned (.tuple #[.string name, .string key, .bool true]) ∧ Below W.heap.size W w') := fun W hbW => cut_some (sep := ⟨#[47]⟩) (by omega) (hL.belowX hpb hbW) hc2
  have HC3 : Hid (∀ W, BelowX pb w0.heap.size w0 W → Calls Tryz.prog 106 #[.string name, .string ⟨#[63]⟩] W fun e w' => e = .returned (.bool false) ∧ W = w') := fun W hbW => by
    obtain ⟨m, hm⟩ := (hL.belowX hpb hbW).maxlen
    have := flipW (Tryz.strings_Contains name ⟨#[63]⟩ m W (by omega) hm)
    rw [show (⟨#[63]⟩ : ByteArray).data.toList = sQ.data.toList from rfl, hq] at this
    exact this
  have HB := Lib.hid hb
  have HP := Lib.hid hP
  have hks : key.size ≤ 1073741824 := by omega
  have hlt := hP.lt
  clear h hb hP hc hc2 hq
  go_enter Tryz.func81, Tryz.ntmps81
  go_wp2_with (go_at_call 82; refine (cutPrefix_any _ _ _).mono ?_; rintro e w' ⟨rfl, rfl⟩)
  refine HC.out.mono ?_
  rintro e w1 ⟨rfl, hb1⟩
  have hB1 : BelowX pb w0.heap.size w0 w1 := HB.out.trans (hb1.mono HB.out.size)
  have hP1 := HP.out.below hb1 hlt
  have HB1 := Lib.hid hB1
  have HP1 := Lib.hid hP1
  clear hb1 hB1 hP1
  go_wp2_with fail
  refine (HC2.out _ HB1.out).mono ?_
  rintro e w2 ⟨rfl, hb2⟩
  have hB2 : BelowX pb w0.heap.size w0 w2 := HB1.out.trans (hb2.mono HB1.out.size)
  have hP2 := HP1.out.below hb2 HP1.out.lt
  have HB2 := Lib.hid hB2
  have HP2 := Lib.hid hP2
  clear hb2 hB2 hP2
  go_wp2_with fail
  refine (HC3.out _ HB2.out).mono ?_
  rintro e w2 ⟨rfl, rfl⟩
  go_wp2_with fail
  cases hx : unescL key.data.toList with
  | none =>
    have HF2 : Hid (targetF how s = none) := by rw [HF.out, hx]; rfl
    refine (text_no key _ hks hx).mono ?_
    rintro e w3 ⟨rfl, hb3⟩
    clear hx
    unfold badE
    go_wp2_with fail
    exact ⟨rfl, HB2.out.trans (hb3.mono HB2.out.size), .inl ⟨HF2.out, rfl⟩⟩
  | some k =>
    have HF2 : Hid (targetF how s = some (opKey how name k)) := by rw [HF.out, hx]; rfl
    refine (text_yes key k _ hks hx).mono ?_
    rintro e w3 ⟨rfl, hb3⟩
    have hB3 : BelowX pb w0.heap.size w0 w3 := HB2.out.trans (hb3.mono HB2.out.size)
    have hP3 := HP2.out.below hb3 HP2.out.lt
    have c2 := hP3.cell 2 _ rfl
    have f2 := hP3.fz 2
    have c3 := hP3.cell 3 _ rfl
    have f3 := hP3.fz 3
    have HB3 := Lib.hid hB3
    have HP3 := Lib.hid hP3
    clear hb3 hB3 hP3 hx
    go_upto_region 7 with fail
    have hP4 : PIs ((w3.setCell ⟨pb, 2, none⟩ (.string name)).setCell ⟨pb, 3, none⟩ (.string (mkB k))) pb ⟨0, 0, name, mkB k, ⟨#[]⟩, 0, 0, [], []⟩ (.slice none 0 0) (.slice none 0 0) := (HP3.out.set 2 (o' := ⟨0, 0, name, ⟨#[]⟩, ⟨#[]⟩, 0, 0, [], []⟩) _ rfl).set 3 _ rfl
    have hB4 : BelowX pb w0.heap.size w0 ((w3.setCell ⟨pb, 2, none⟩ (.string name)).setCell ⟨pb, 3, none⟩ (.string (mkB k))) := (HB3.out.setP _ _).setP _ _
    generalize (w3.setCell ⟨pb, 2, none⟩ (.string name)).setCell ⟨pb, 3, none⟩ (.string (mkB k)) = w4 at *
    have m0 := run_makeMap_plain (P := Tryz.prog) w4 134
    have m1 : (Instr.mapUpdate 134 (.map (some w4.heap.size)) (.string ⟨#[80, 85, 84]⟩) (.int .i64 3)).run Tryz.prog (w4.alloc (.map #[] 0)) = .ok () (w4.alloc (.map #[en ⟨#[80, 85, 84]⟩ 3 0] 1)) := map_upd w4 #[] 0 _ _ rfl
    have m2 : (Instr.mapUpdate 134 (.map (some w4.heap.size)) (.string ⟨#[71, 69, 84]⟩) (.int .i64 4)).run Tryz.prog (w4.alloc (.map #[en ⟨#[80, 85, 84]⟩ 3 0] 1)) = .ok () (w4.alloc (.map #[en ⟨#[80, 85, 84]⟩ 3 0, en ⟨#[71, 69, 84]⟩ 4 1] 2)) := map_upd w4 _ 1 _ _ ((find_next (by decide)).trans rfl)
    have m3 : (Instr.mapUpdate 134 (.map (some w4.heap.size)) (.string ⟨#[68, 69, 76, 69, 84, 69]⟩) (.int .i64 5)).run Tryz.prog (w4.alloc (.map #[en ⟨#[80, 85, 84]⟩ 3 0, en ⟨#[71, 69, 84]⟩ 4 1] 2)) = .ok () (w4.alloc (.map #[en ⟨#[80, 85, 84]⟩ 3 0, en ⟨#[71, 69, 84]⟩ 4 1, en ⟨#[68, 69, 76, 69, 84, 69]⟩ 5 2] 3)) := map_upd w4 _ 2 _ _ ((find_next (by decide)).trans ((find_next (by decide)).trans rfl))
    have m4 : (Instr.mapUpdate 134 (.map (some w4.heap.size)) (.string ⟨#[80, 79, 83, 84]⟩) (.int .i64 7)).run Tryz.prog (w4.alloc (.map #[en ⟨#[80, 85, 84]⟩ 3 0, en ⟨#[71, 69, 84]⟩ 4 1, en ⟨#[68, 69, 76, 69, 84, 69]⟩ 5 2] 3)) = .ok () (w4.alloc (.map #[en ⟨#[80, 85, 84]⟩ 3 0, en ⟨#[71, 69, 84]⟩ 4 1, en ⟨#[68, 69, 76, 69, 84, 69]⟩ 5 2, en ⟨#[80, 79, 83, 84]⟩ 7 3] 4)) := map_upd w4 _ 3 _ _ ((find_next (by decide)).trans ((find_next (by decide)).trans ((find_next (by decide)).trans rfl)))
    have m5 := look4 w4 how
    have hBA : ∀ x, Below w4.heap.size w4 (w4.alloc x) := fun x => (Below.refl _ _).alloc (Nat.le_refl _) x
    have hP5 : ∀ x, PIs (w4.alloc x) pb ⟨0, 0, name, mkB k, ⟨#[]⟩, 0, 0, [], []⟩ (.slice none 0 0) (.slice none 0 0) := fun x => hP4.below (hBA x) hP4.lt
    have c1 := fun x => (hP5 x).cell 1 _ rfl
    have f1 := fun x => (hP5 x).fz 1
    have HB5 : Hid (∀ x, BelowX pb w0.heap.size w0 (w4.alloc x)) := fun x => hB4.alloc hB4.size x
    have HP5 := Lib.hid hP5
    clear hP5 hBA hB4 hP4 c2 f2 c3 f3
    go_wp2_with fail
    go_end0
    exact ⟨(HB5.out _).setP _ _, .inr ⟨opKey how name k, .slice none 0 0, HF2.out, rfl, (HP5.out _).set 1 _ rfl, RowX.nil _ _ _ _⟩⟩
end Go.Proofs.YtnlooggibopknaaGreatDoor

/- The walk of the parser's target at a bucket and at a listing. -/
namespace Go.Proofs.YtnlooggibopknaaGreatDoor
open Go.RowKit Go.Sort

/-- What the second Cut tells where the target is no key's. -/
def CutP (s1 : ByteArray) (W : World) (e : Ending) (w' : World) : Prop :=
  ((∃ a b, e = .returned (.tuple #[.string a, .string b, .bool false])) ∨ (∃ a b, e = .returned (.tuple #[.string a, .string b, .bool true]) ∧ Lib.contains a.data.toList sQ.data.toList = true ∧ a.size ≤ s1.size)) ∧ Below W.heap.size W w'
theorem cutP_any {s1 : ByteArray} {W : World} (hs : s1.size ≤ 1073741824) (hL : Lib0 W) (h : ∀ p, cutO s1 sSlash = some p → Lib.contains p.1.data.toList sQ.data.toList = true) :
    Calls Tryz.prog 105 #[.string s1, .string ⟨#[47]⟩] W (CutP s1 W) := by
  cases hc : cutO s1 sSlash with
  | none => exact (cut_none (sep := ⟨#[47]⟩) hs hL hc).mono fun _ _ ⟨h1, h2⟩ => ⟨.inl h1, h2⟩
  | some p =>
    obtain ⟨a, b⟩ := p
    exact (cut_some (sep := ⟨#[47]⟩) hs hL hc).mono fun _ _ ⟨h1, h2⟩ => ⟨.inr ⟨a, b, h1, h _ hc, (cutO_size hc).1⟩, h2⟩
theorem contains_yes {a : ByteArray} {W : World} (hs : a.size ≤ 1073741824) (hL : Lib0 W) (h : Lib.contains a.data.toList sQ.data.toList = true) :
    Calls Tryz.prog 106 #[.string a, .string ⟨#[63]⟩] W fun e w' => e = .returned (.bool true) ∧ W = w' := by
  obtain ⟨m, hm⟩ := hL.maxlen
  have := flipW (Tryz.strings_Contains a ⟨#[63]⟩ m W (by omega) hm)
  rw [show (⟨#[63]⟩ : ByteArray).data.toList = sQ.data.toList from rfl, h] at this
  exact this

set_option maxHeartbeats 4000000 in
set_option maxRecDepth 1000000 in
theorem target_bucket (how s s0 s1 : ByteArray) (w0 w : World) (pb : Nat) (hL : Lib0 w0) (hb : BelowX pb w0.heap.size w0 w) (hpb : 8 ≤ pb) (hs : s.size ≤ 1073741824) (hP : PIs w pb zeroO (.slice none 0 0) (.slice none 0 0)) (h : hp s sUpload = false) (hc : cutO s sSlash = some (s0, s1))
    (hq : ∀ p, cutO s1 sSlash = some p → Lib.contains p.1.data.toList sQ.data.toList = true) (hn : cutO s1 sPrefix = none) :
    Calls Tryz.prog 81 #[.pointer (some ⟨pb, 0, none⟩), .string how, .string s] w (PrE (targetF how s) w0 pb) := by
  have HF : Hid (targetF how s = some (opBucket how s1)) := by
    unfold Hid targetF
    rw [if_neg (by rw [h]; decide), hc, Option.bind_some]
    unfold slashF plainF
    rw [hn]
    cases hx : cutO s1 sSlash with
    | none => rfl
    | some p => simp only [hq p hx]; rfl
  have hp1 : hp s ⟨#[47, 63, 117, 112, 108, 111, 97, 100, 61]⟩ = false := h
  have hz1 := (cutO_size hc).2
  have hs1 : s1.size ≤ 1073741824 := by omega
  have HC : Hid (Calls Tryz.prog 104 #[.string s, .string ⟨#[47]⟩] w fun e w' => e = .returned (.tuple #[.string s0, .string s1]) ∧ Below w.heap.size w w') := cut_yes s ⟨#[47]⟩ s0 s1 w hs (hL.belowX hpb hb) (cutO_some hc)
  have HC2 : Hid (∀ W, BelowX pb w0.heap.size w0 W → Calls Tryz.prog 105 #[.string s1, .string ⟨#[47]⟩] W (CutP s1 W)) := fun W hbW => cutP_any hs1 (hL.belowX hpb hbW) hq
  have HC3 : Hid (∀ W, BelowX pb w0.heap.size w0 W → Calls Tryz.prog 105 #[.string s1, .string ⟨#[63, 112, 114, 101, 102, 105, 120, 61]⟩] W fun e w' => (∃ a b, e = .returned (.tuple #[.string a, .string b, .bool false])) ∧ Below W.heap.size W w') := fun W hbW => cut_none (sep := ⟨#[63, 112, 114, 101, 102, 105, 120, 61]⟩) hs1 (hL.belowX hpb hbW) hn
  have HB := Lib.hid hb
  have HP := Lib.hid hP
  have HLL := Lib.hid hL
  have hlt := hP.lt
  clear h hb hP hc hq hn hL
  go_enter Tryz.func81, Tryz.ntmps81
  go_wp2_with (go_at_call 82; refine (cutPrefix_any _ _ _).mono ?_; rintro e w' ⟨rfl, rfl⟩)
  refine HC.out.mono ?_
  rintro e w1 ⟨rfl, hb1⟩
  have hB1 : BelowX pb w0.heap.size w0 w1 := HB.out.trans (hb1.mono HB.out.size)
  have hP1 := HP.out.below hb1 hlt
  have HB1 := Lib.hid hB1
  have HP1 := Lib.hid hP1
  clear hb1 hB1 hP1
  go_wp2_with fail
  refine (HC2.out _ HB1.out).mono ?_
  rintro e w2 ⟨hab, hb2⟩
  have hB2 : BelowX pb w0.heap.size w0 w2 := HB1.out.trans (hb2.mono HB1.out.size)
  have hP2 := HP1.out.below hb2 HP1.out.lt
  have HB2 := Lib.hid hB2
  have HP2 := Lib.hid hP2
  clear hb2 hB2 hP2
  rcases hab with ⟨a, b, rfl⟩ | ⟨a, b, rfl, hct, haz⟩
  all_goals
    go_wp2_with (go_at_call 106; refine (contains_yes (by omega) (HLL.out.belowX hpb HB2.out) (by assumption)).mono ?_; rintro e w' ⟨rfl, rfl⟩)
    refine (HC3.out _ HB2.out).mono ?_
    rintro e w3 ⟨⟨a3, b3, rfl⟩, hb3⟩
    have hB3 : BelowX pb w0.heap.size w0 w3 := HB2.out.trans (hb3.mono HB2.out.size)
    have hP3 := HP2.out.below hb3 HP2.out.lt
    have c2 := hP3.cell 2 _ rfl
    have f2 := hP3.fz 2
    have HB3 := Lib.hid hB3
    have HP3 := Lib.hid hP3
    clear hb3 hB3 hP3
    go_upto_region 16 with fail
    have hP4 : PIs (w3.setCell ⟨pb, 2, none⟩ (.string s1)) pb ⟨0, 0, s1, ⟨#[]⟩, ⟨#[]⟩, 0, 0, [], []⟩ (.slice none 0 0) (.slice none 0 0) := HP3.out.set 2 _ rfl
    have hB4 : BelowX pb w0.heap.size w0 (w3.setCell ⟨pb, 2, none⟩ (.string s1)) := HB3.out.setP _ _
    generalize w3.setCell ⟨pb, 2, none⟩ (.string s1) = w4 at *
    have m0 := run_makeMap_plain (P := Tryz.prog) w4 134
    have m1 : (Instr.mapUpdate 134 (.map (some w4.heap.size)) (.string ⟨#[80, 85, 84]⟩) (.int .i64 1)).run Tryz.prog (w4.alloc (.map #[] 0)) = .ok () (w4.alloc (.map #[en ⟨#[80, 85, 84]⟩ 1 0] 1)) := map_upd w4 #[] 0 _ _ rfl
    have m3 : (Instr.mapUpdate 134 (.map (some w4.heap.size)) (.string ⟨#[68, 69, 76, 69, 84, 69]⟩) (.int .i64 2)).run Tryz.prog (w4.alloc (.map #[en ⟨#[80, 85, 84]⟩ 1 0] 1)) = .ok () (w4.alloc (.map #[en ⟨#[80, 85, 84]⟩ 1 0, en ⟨#[68, 69, 76, 69, 84, 69]⟩ 2 1] 2)) := map_upd w4 _ 1 _ _ ((find_next (by decide)).trans rfl)
    have m5 := look2 w4 how
    have hBA : ∀ x, Below w4.heap.size w4 (w4.alloc x) := fun x => (Below.refl _ _).alloc (Nat.le_refl _) x
    have hP5 : ∀ x, PIs (w4.alloc x) pb ⟨0, 0, s1, ⟨#[]⟩, ⟨#[]⟩, 0, 0, [], []⟩ (.slice none 0 0) (.slice none 0 0) := fun x => hP4.below (hBA x) hP4.lt
    have c1 := fun x => (hP5 x).cell 1 _ rfl
    have f1 := fun x => (hP5 x).fz 1
    have HB5 : Hid (∀ x, BelowX pb w0.heap.size w0 (w4.alloc x)) := fun x => hB4.alloc hB4.size x
    have HP5 := Lib.hid hP5
    clear hP5 hBA hB4 hP4 c2 f2
    go_wp2_with fail
    go_end0
    exact ⟨(HB5.out _).setP _ _, .inr ⟨opBucket how s1, .slice none 0 0, HF.out, rfl, (HP5.out _).set 1 _ rfl, RowX.nil _ _ _ _⟩⟩
end Go.Proofs.YtnlooggibopknaaGreatDoor

/- The walk of the parser's target at a listing; at any text. -/
namespace Go.Proofs.YtnlooggibopknaaGreatDoor
open Go.RowKit Go.Sort

set_option maxHeartbeats 4000000 in
set_option maxRecDepth 1000000 in
theorem target_list (how s s0 s1 : ByteArray) (w0 w : World) (pb : Nat) (hL : Lib0 w0) (hb : BelowX pb w0.heap.size w0 w) (hpb : 8 ≤ pb) (hs : s.size ≤ 1073741824) (hP : PIs w pb zeroO (.slice none 0 0) (.slice none 0 0)) (h : hp s sUpload = false) (hc : cutO s sSlash = some (s0, s1))
    (hq : ∀ p, cutO s1 sSlash = some p → Lib.contains p.1.data.toList sQ.data.toList = true) (name rest : ByteArray) (hn : cutO s1 sPrefix = some (name, rest)) :
    Calls Tryz.prog 81 #[.pointer (some ⟨pb, 0, none⟩), .string how, .string s] w (PrE (targetF how s) w0 pb) := by
  have HF : Hid (targetF how s = listF name rest) := by
    unfold Hid targetF
    rw [if_neg (by rw [h]; decide), hc, Option.bind_some]
    unfold slashF plainF
    rw [hn]
    cases hx : cutO s1 sSlash with
    | none => rfl
    | some p => simp only [hq p hx]; rfl
  have hp1 : hp s ⟨#[47, 63, 117, 112, 108, 111, 97, 100, 61]⟩ = false := h
  have hz1 := (cutO_size hc).2
  have hs1 : s1.size ≤ 1073741824 := by omega
  have HC : Hid (Calls Tryz.prog 104 #[.string s, .string ⟨#[47]⟩] w fun e w' => e = .returned (.tuple #[.string s0, .string s1]) ∧ Below w.heap.size w w') := cut_yes s ⟨#[47]⟩ s0 s1 w hs (hL.belowX hpb hb) (cutO_some hc)
  have HC2 : Hid (∀ W, BelowX pb w0.heap.size w0 W → Calls Tryz.prog 105 #[.string s1, .string ⟨#[47]⟩] W (CutP s1 W)) := fun W hbW => cutP_any hs1 (hL.belowX hpb hbW) hq
  have HC3 : Hid (∀ W, BelowX pb w0.heap.size w0 W → Calls Tryz.prog 105 #[.string s1, .string ⟨#[63, 112, 114, 101, 102, 105, 120, 61]⟩] W fun e w' => e = .returned (.tuple #[.string name, .string rest, .bool true]) ∧ Below W.heap.size W w') := fun W hbW => cut_some (sep := ⟨#[63, 112, 114, 101, 102, 105, 120, 61]⟩) hs1 (hL.belowX hpb hbW) hn
  have hzr := (cutO_size hn).2
  have hrs : rest.size ≤ 1073741824 := by omega
  have HB := Lib.hid hb
  have HP := Lib.hid hP
  have HLL := Lib.hid hL
  have hlt := hP.lt
  clear h hb hP hc hq hn hL
  go_enter Tryz.func81, Tryz.ntmps81
  go_wp2_with (go_at_call 82; refine (cutPrefix_any _ _ _).mono ?_; rintro e w' ⟨rfl, rfl⟩)
  refine HC.out.mono ?_
  rintro e w1 ⟨rfl, hb1⟩
  have hB1 : BelowX pb w0.heap.size w0 w1 := HB.out.trans (hb1.mono HB.out.size)
  have hP1 := HP.out.below hb1 hlt
  have HB1 := Lib.hid hB1
  have HP1 := Lib.hid hP1
  clear hb1 hB1 hP1
  go_wp2_with fail
  refine (HC2.out _ HB1.out).mono ?_
  rintro e w2 ⟨hab, hb2⟩
  have hB2 : BelowX pb w0.heap.size w0 w2 := HB1.out.trans (hb2.mono HB1.out.size)
  have hP2 := HP1.out.below hb2 HP1.out.lt
  have HB2 := Lib.hid hB2
  have HP2 := Lib.hid hP2
  clear hb2 hB2 hP2
  rcases hab with ⟨a, b, rfl⟩ | ⟨a, b, rfl, hct, haz⟩
  all_goals
    go_wp2_with (go_at_call 106; refine (contains_yes (by omega) (HLL.out.belowX hpb HB2.out) (by assumption)).mono ?_; rintro e w' ⟨rfl, rfl⟩)
    refine (HC3.out _ HB2.out).mono ?_
    rintro e w3 ⟨rfl, hb3⟩
    have hB3 : BelowX pb w0.heap.size w0 w3 := HB2.out.trans (hb3.mono HB2.out.size)
    have hP3 := HP2.out.below hb3 HP2.out.lt
    have HB3 := Lib.hid hB3
    have HP3 := Lib.hid hP3
    clear hb3 hB3 hP3
    go_wp2_with fail
    cases hA : cutO rest sAfter with
    | none =>
      have HF2 : Hid (targetF how s = none) := by rw [HF.out]; unfold listF; rw [hA]; rfl
      refine (cut_no rest ⟨#[38, 97, 102, 116, 101, 114, 61]⟩ _ hrs (HLL.out.belowX hpb HB3.out) (cutO_none hA)).mono ?_
      rintro e w4 ⟨rfl, hb4⟩
      clear hA
      unfold badE
      go_wp2_with fail
      exact ⟨rfl, HB3.out.trans (hb4.mono HB3.out.size), .inl ⟨HF2.out, rfl⟩⟩
    | some pA =>
    obtain ⟨pt, r2⟩ := pA
    have hzA := cutO_size hA
    have hpt : pt.size ≤ 1073741824 := by omega
    have hr2 : r2.size ≤ 1073741824 := by omega
    refine (cut_yes rest ⟨#[38, 97, 102, 116, 101, 114, 61]⟩ pt r2 _ hrs (HLL.out.belowX hpb HB3.out) (cutO_some hA)).mono ?_
    rintro e w4 ⟨rfl, hb4⟩
    have hB4 : BelowX pb w0.heap.size w0 w4 := HB3.out.trans (hb4.mono HB3.out.size)
    have HP4 := Lib.hid (HP3.out.below hb4 HP3.out.lt)
    have HB4 := Lib.hid hB4
    have HA := Lib.hid hA
    clear hb4 hB4 hA
    go_wp2_with fail
    cases hN : cutO r2 sN with
    | none =>
      have HF2 : Hid (targetF how s = none) := by rw [HF.out]; unfold listF; rw [HA.out, Option.bind_some]; simp only; rw [hN]; rfl
      refine (cut_no r2 ⟨#[38, 110, 61]⟩ _ hr2 (HLL.out.belowX hpb HB4.out) (cutO_none hN)).mono ?_
      rintro e w5 ⟨rfl, hb5⟩
      clear hN
      unfold badE
      go_wp2_with fail
      exact ⟨rfl, HB4.out.trans (hb5.mono HB4.out.size), .inl ⟨HF2.out, rfl⟩⟩
    | some pN =>
    obtain ⟨at2, nt⟩ := pN
    have hzN := cutO_size hN
    have hat : at2.size ≤ 1073741824 := by omega
    have hnt : nt.size ≤ 1073741824 := by omega
    refine (cut_yes r2 ⟨#[38, 110, 61]⟩ at2 nt _ hr2 (HLL.out.belowX hpb HB4.out) (cutO_some hN)).mono ?_
    rintro e w5 ⟨rfl, hb5⟩
    have hB5 : BelowX pb w0.heap.size w0 w5 := HB4.out.trans (hb5.mono HB4.out.size)
    have HP5 := Lib.hid (HP4.out.below hb5 HP4.out.lt)
    have HB5 := Lib.hid hB5
    have HFN : Hid (targetF how s = (unescL pt.data.toList).bind fun k => (unescL at2.data.toList).bind fun a => (numF nt.data.toList).map fun m => opList name k a m) := by
      rw [HF.out]; unfold listF; rw [HA.out, Option.bind_some]; simp only; rw [hN, Option.bind_some]; rfl
    clear hb5 hB5 hN HF HA
    go_wp2_with fail
    cases hk : unescL pt.data.toList with
    | none =>
      have HF2 : Hid (targetF how s = none) := by rw [HFN.out, hk]; rfl
      refine (text_no pt _ hpt hk).mono ?_
      rintro e w6 ⟨rfl, hb6⟩
      clear hk
      unfold badE
      go_wp2_with fail
      exact ⟨rfl, HB5.out.trans (hb6.mono HB5.out.size), .inl ⟨HF2.out, rfl⟩⟩
    | some k =>
    refine (text_yes pt k _ hpt hk).mono ?_
    rintro e w6 ⟨rfl, hb6⟩
    have HK := Lib.hid hk
    have hB6 : BelowX pb w0.heap.size w0 w6 := HB5.out.trans (hb6.mono HB5.out.size)
    have HP6 := Lib.hid (HP5.out.below hb6 HP5.out.lt)
    have HB6 := Lib.hid hB6
    clear hb6 hB6 hk
    go_wp2_with fail
    cases ha : unescL at2.data.toList with
    | none =>
      have HF2 : Hid (targetF how s = none) := by rw [HFN.out, HK.out, Option.bind_some, ha]; rfl
      refine (text_no at2 _ hat ha).mono ?_
      rintro e w7 ⟨rfl, hb7⟩
      clear ha
      unfold badE
      go_wp2_with fail
      exact ⟨rfl, HB6.out.trans (hb7.mono HB6.out.size), .inl ⟨HF2.out, rfl⟩⟩
    | some aa =>
    refine (text_yes at2 aa _ hat ha).mono ?_
    rintro e w7 ⟨rfl, hb7⟩
    have HFA : Hid (targetF how s = (numF nt.data.toList).map (opList name k aa)) := by rw [HFN.out, HK.out, Option.bind_some, ha, Option.bind_some]; rfl
    have hB7 : BelowX pb w0.heap.size w0 w7 := HB6.out.trans (hb7.mono HB6.out.size)
    have hP7 := HP6.out.below hb7 HP6.out.lt
    have c1 := hP7.cell 1 _ rfl
    have f1 := hP7.fz 1
    have c2 := hP7.cell 2 _ rfl
    have f2 := hP7.fz 2
    have c3 := hP7.cell 3 _ rfl
    have f3 := hP7.fz 3
    have c4 := hP7.cell 4 _ rfl
    have f4 := hP7.fz 4
    have HP7 := Lib.hid hP7
    have HB7 := Lib.hid hB7
    clear hb7 hB7 hP7 ha HFN HK
    go_upto_region 13 with fail
    have hP8 : PIs ((((w7.setCell ⟨pb, 1, none⟩ (.int .i64 6)).setCell ⟨pb, 2, none⟩ (.string name)).setCell ⟨pb, 3, none⟩ (.string (mkB k))).setCell ⟨pb, 4, none⟩ (.string (mkB aa))) pb ⟨0, 6, name, mkB k, mkB aa, 0, 0, [], []⟩ (.slice none 0 0) (.slice none 0 0) :=
      (((HP7.out.set 1 (o' := ⟨0, 6, ⟨#[]⟩, ⟨#[]⟩, ⟨#[]⟩, 0, 0, [], []⟩) _ rfl).set 2 (o' := ⟨0, 6, name, ⟨#[]⟩, ⟨#[]⟩, 0, 0, [], []⟩) _ rfl).set 3 (o' := ⟨0, 6, name, mkB k, ⟨#[]⟩, 0, 0, [], []⟩) _ rfl).set 4 _ rfl
    have hB8 : BelowX pb w0.heap.size w0 ((((w7.setCell ⟨pb, 1, none⟩ (.int .i64 6)).setCell ⟨pb, 2, none⟩ (.string name)).setCell ⟨pb, 3, none⟩ (.string (mkB k))).setCell ⟨pb, 4, none⟩ (.string (mkB aa))) :=
      (((HB7.out.setP _ _).setP _ _).setP _ _).setP _ _
    generalize (((w7.setCell ⟨pb, 1, none⟩ (.int .i64 6)).setCell ⟨pb, 2, none⟩ (.string name)).setCell ⟨pb, 3, none⟩ (.string (mkB k))).setCell ⟨pb, 4, none⟩ (.string (mkB aa)) = w8 at *
    clear c1 f1 c2 f2 c3 f3 c4 f4
    go_wp2_with fail
    refine (number_any nt _ hnt (HLL.out.belowX hpb hB8)).mono ?_
    rintro e w9 ⟨n, rfl, _, hnn, hb9⟩
    have hB9 : BelowX pb w0.heap.size w0 w9 := hB8.trans (hb9.mono hB8.size)
    have hP9 := hP8.below hb9 hP8.lt
    have c5 := hP9.cell 5 _ rfl
    have f5 := hP9.fz 5
    have HP9 := Lib.hid hP9
    have HB9 := Lib.hid hB9
    have HNN := Lib.hid hnn
    clear hb9 hB9 hP9 hnn hP8 hB8
    cases hx : numF nt.data.toList with
    | none =>
      have HF2 : Hid (targetF how s = none) := by rw [HFA.out, hx]; rfl
      simp only [Option.isSome_none]
      clear hx
      go_wp2_with (go_at_call 47; refine (must_no _).mono ?_; rintro e w' ⟨rfl, rfl⟩)
      exact ⟨rfl, HB9.out.setP _ _, .inl ⟨HF2.out, rfl⟩⟩
    | some m =>
      have HF2 : Hid (targetF how s = some (opList name k aa m)) := by rw [HFA.out, hx]; rfl
      obtain rfl := HNN.out m hx
      simp only [Option.isSome_some]
      clear hx HNN
      go_wp2_with (go_at_call 47; refine (must_yes _).mono ?_; rintro e w' ⟨rfl, rfl⟩)
      go_end0
      exact ⟨HB9.out.setP _ _, .inr ⟨opList name k aa m, .slice none 0 0, HF2.out, rfl, HP9.out.set 5 _ rfl, RowX.nil _ _ _ _⟩⟩

theorem target_p_any (how s : ByteArray) (w0 w : World) (pb : Nat) (hL : Lib0 w0) (hb : BelowX pb w0.heap.size w0 w) (hpb : 8 ≤ pb) (hs : s.size ≤ 1073741824) (hP : PIs w pb zeroO (.slice none 0 0) (.slice none 0 0)) :
    Calls Tryz.prog 81 #[.pointer (some ⟨pb, 0, none⟩), .string how, .string s] w (PrE (targetF how s) w0 pb) := by
  cases h : hp s sUpload with
  | true => exact target_up how s w0 w pb hL hb hpb hs hP h
  | false =>
    cases hc : cutO s sSlash with
    | none => exact target_bad how s w0 w pb hL hb hpb hs h hc
    | some p =>
      obtain ⟨s0, s1⟩ := p
      have rest : (∀ p, cutO s1 sSlash = some p → Lib.contains p.1.data.toList sQ.data.toList = true) → Calls Tryz.prog 81 #[.pointer (some ⟨pb, 0, none⟩), .string how, .string s] w (PrE (targetF how s) w0 pb) := fun hq => by
        cases hn : cutO s1 sPrefix with
        | none => exact target_bucket how s s0 s1 w0 w pb hL hb hpb hs hP h hc hq hn
        | some q => exact target_list how s s0 s1 w0 w pb hL hb hpb hs hP h hc hq q.1 q.2 hn
      cases hx : cutO s1 sSlash with
      | none => exact rest (fun p hp => by rw [hx] at hp; cases hp)
      | some q =>
        obtain ⟨name, key⟩ := q
        cases hq : Lib.contains name.data.toList sQ.data.toList with
        | false => exact target_key how s s0 s1 name key w0 w pb hL hb hpb hs hP h hc hx hq
        | true => exact rest (fun p hp => by rw [hx] at hp; cases hp; exact hq)
end Go.Proofs.YtnlooggibopknaaGreatDoor

/- The walk of the parser's head. -/
namespace Go.Proofs.YtnlooggibopknaaGreatDoor
open Go.RowKit Go.Sort

def setId (o : O) (u : Nat) : O := { o with id := u }
noncomputable def headT (l1 l2 : ByteArray) (o : O) : Option (O × ByteArray) :=
  if hp l1 sId = true then (unhexL (tp l1 sId).data.toList).bind fun u => if hp l2 sLen = true then some (setId o u, tp l2 sLen) else none else none
noncomputable def headW (l1 l2 : ByteArray) (v : List ByteArray) : Option (O × ByteArray) := match v with
  | [a, b, c] => if c = sVer then (targetF a b).bind (headT l1 l2) else none
  | _ => none
noncomputable def headF (s : ByteArray) : Option (O × ByteArray) := match spl s sEnd with
  | [l0, l1, l2] => headW l1 l2 (spl l0 sSpace)
  | _ => none
def PrH (r : Option (O × ByteArray)) (w0 : World) (pb : Nat) (e : Ending) (w' : World) : Prop :=
  BelowX pb w0.heap.size w0 w' ∧ ((r = none ∧ e = badE) ∨ ∃ o t pv, r = some (o, t) ∧ e = .returned (.string t) ∧ PIs w' pb o pv (.slice none 0 0) ∧ RowX pb w' pv (icells o.ps))
theorem three_of {l : List ByteArray} (h : l.length = 3) : ∃ a b c, l = [a, b, c] := by
  match l, h with
  | [a, b, c], _ => exact ⟨a, b, c, rfl⟩
theorem headF_not {s : ByteArray} (h : (spl s sEnd).length ≠ 3) : headF s = none := by
  unfold headF
  split
  · rename_i hx; rw [hx] at h; exact absurd rfl h
  · rfl
theorem headW_not {l1 l2 : ByteArray} {v : List ByteArray} (h : v.length ≠ 3) : headW l1 l2 v = none := by
  unfold headW
  split
  · exact absurd rfl h
  · rfl

/-- strings.Split, as the parser calls it. -/
theorem split_any (s sep : ByteArray) (w : World) (hs : s.size ≤ 1073741824) (h1 : 1 ≤ sep.size) (hL : Lib0 w) :
    Calls Tryz.prog 80 #[.string s, .string sep] w fun e w' => e = .returned (.slice (some ⟨w.heap.size, 0, none⟩) (spl s sep).length (spl s sep).length) ∧ w.alloc (.cells ((spl s sep).map Value.string).toArray 9) = w' := by
  obtain ⟨m, hm⟩ := hL.maxlen
  refine (Tryz.strings_Split s sep m w (by omega) hm h1).mono ?_
  rintro e w' ⟨rfl, rfl⟩
  rw [spl_len s sep h1]
  exact ⟨rfl, rfl⟩

set_option maxHeartbeats 1000000 in
set_option maxRecDepth 1000000 in
theorem head_not3 (s : ByteArray) (w0 w : World) (pb : Nat) (hL : Lib0 w0) (hb : BelowX pb w0.heap.size w0 w) (hpb : 8 ≤ pb) (hs : s.size ≤ 1073741824) (h : (spl s sEnd).length ≠ 3) :
    Calls Tryz.prog 46 #[.pointer (some ⟨pb, 0, none⟩), .string s] w (PrH (headF s) w0 pb) := by
  have HF := Lib.hid (headF_not h)
  have HS : Hid (Calls Tryz.prog 80 #[.string s, .string ⟨#[13, 10]⟩] w _) := split_any s ⟨#[13, 10]⟩ w hs (by decide) (hL.belowX hpb hb)
  have hb3 : (((spl s ⟨#[13, 10]⟩).length : Int) == 3) = false := by rw [beq_eq_false_iff_ne]; intro e; exact h (by show (spl s ⟨#[13, 10]⟩).length = 3; omega)
  have hb4 : ¬ ((spl s ⟨#[13, 10]⟩).length : Int) = 3 := by intro e; exact h (by show (spl s ⟨#[13, 10]⟩).length = 3; omega)
  have hb5 : ¬ (spl s ⟨#[13, 10]⟩).length = 3 := h
  have HB : Hid (∀ x, BelowX pb w0.heap.size w0 (w.alloc x)) := fun x => hb.alloc hb.size x
  clear h hb
  go_enter Tryz.func46, Tryz.ntmps46
  go_wp2_with fail
  refine HS.out.mono ?_
  rintro e w1 ⟨rfl, rfl⟩
  go_wp2_with (go_at_call 47; refine (must_no _).mono ?_; rintro e w' ⟨rfl, rfl⟩)
  exact ⟨rfl, HB.out _, .inl ⟨HF.out, rfl⟩⟩
end Go.Proofs.YtnlooggibopknaaGreatDoor

/- The walk of the parser's head at three lines. -/
namespace Go.Proofs.YtnlooggibopknaaGreatDoor
open Go.RowKit Go.Sort

theorem split3 {s sep a b c : ByteArray} {w : World} (hs : s.size ≤ 1073741824) (h1 : 1 ≤ sep.size) (hL : Lib0 w) (h : spl s sep = [a, b, c]) :
    Calls Tryz.prog 80 #[.string s, .string sep] w fun e w' => e = .returned (.slice (some ⟨w.heap.size, 0, none⟩) 3 3) ∧ w.alloc (.cells #[.string a, .string b, .string c] 9) = w' := by
  have := split_any s sep w hs h1 hL
  rw [h] at this
  exact this
theorem spl_size {s sep t : ByteArray} (h : t ∈ spl s sep) : t.size ≤ s.size := splitB_le _ _ _ _ h

set_option maxHeartbeats 1000000 in
set_option maxRecDepth 1000000 in
theorem head_w3 (s l0 l1 l2 : ByteArray) (w0 w : World) (pb : Nat) (hL : Lib0 w0) (hb : BelowX pb w0.heap.size w0 w) (hpb : 8 ≤ pb) (hs : s.size ≤ 1073741824) (h : spl s sEnd = [l0, l1, l2]) (h3 : (spl l0 sSpace).length ≠ 3) :
    Calls Tryz.prog 46 #[.pointer (some ⟨pb, 0, none⟩), .string s] w (PrH (headF s) w0 pb) := by
  have HF : Hid (headF s = none) := by unfold Hid headF; rw [h]; exact headW_not h3
  have hz0 : l0.size ≤ s.size := spl_size (sep := sEnd) (by rw [h]; simp)
  have HS : Hid (Calls Tryz.prog 80 #[.string s, .string ⟨#[13, 10]⟩] w _) := split3 (sep := ⟨#[13, 10]⟩) hs (by decide) (hL.belowX hpb hb) h
  have HS2 : Hid (∀ W, BelowX pb w0.heap.size w0 W → Calls Tryz.prog 80 #[.string l0, .string ⟨#[32]⟩] W _) := fun W hW => split_any l0 ⟨#[32]⟩ W (by omega) (by decide) (hL.belowX hpb hW)
  have hb3 : (((spl l0 ⟨#[32]⟩).length : Int) == 3) = false := by rw [beq_eq_false_iff_ne]; intro e; exact h3 (by show (spl l0 ⟨#[32]⟩).length = 3; omega)
  have hb4 : ¬ ((spl l0 ⟨#[32]⟩).length : Int) = 3 := by intro e; exact h3 (by show (spl l0 ⟨#[32]⟩).length = 3; omega)
  have hb5 : ¬ (spl l0 ⟨#[32]⟩).length = 3 := h3
  have HB : Hid (∀ x, BelowX pb w0.heap.size w0 (w.alloc x)) := fun x => hb.alloc hb.size x
  clear h hb h3
  go_enter Tryz.func46, Tryz.ntmps46
  go_wp2_with fail
  refine HS.out.mono ?_
  rintro e w1 ⟨rfl, rfl⟩
  go_wp2_with (go_at_call 47; refine (must_yes _).mono ?_; rintro e w' ⟨rfl, rfl⟩)
  have HBA := HB.out (.cells #[.string l0, .string l1, .string l2] 9)
  generalize w.alloc (.cells #[.string l0, .string l1, .string l2] 9) = wA at *
  have HB2 : Hid (∀ x, BelowX pb w0.heap.size w0 (wA.alloc x)) := fun x => HBA.alloc HBA.size x
  refine (HS2.out _ HBA).mono ?_
  rintro e w2 ⟨rfl, rfl⟩
  go_wp2_with (go_at_call 47; refine (must_no _).mono ?_; rintro e w' ⟨rfl, rfl⟩)
  exact ⟨rfl, HB2.out _, .inl ⟨HF.out, rfl⟩⟩

set_option maxHeartbeats 1000000 in
set_option maxRecDepth 1000000 in
theorem head_ver (s l0 l1 l2 a b c : ByteArray) (w0 w : World) (pb : Nat) (hL : Lib0 w0) (hb : BelowX pb w0.heap.size w0 w) (hpb : 8 ≤ pb) (hs : s.size ≤ 1073741824) (h : spl s sEnd = [l0, l1, l2]) (h3 : spl l0 sSpace = [a, b, c]) (hc : c ≠ sVer) :
    Calls Tryz.prog 46 #[.pointer (some ⟨pb, 0, none⟩), .string s] w (PrH (headF s) w0 pb) := by
  have HF : Hid (headF s = none) := by
    unfold Hid headF
    rw [h]
    unfold headW
    simp only
    rw [h3]
    simp only
    rw [if_neg hc]
  have hz0 : l0.size ≤ s.size := spl_size (sep := sEnd) (by rw [h]; simp)
  have HS : Hid (Calls Tryz.prog 80 #[.string s, .string ⟨#[13, 10]⟩] w _) := split3 (sep := ⟨#[13, 10]⟩) hs (by decide) (hL.belowX hpb hb) h
  have HS2 : Hid (∀ W, BelowX pb w0.heap.size w0 W → Calls Tryz.prog 80 #[.string l0, .string ⟨#[32]⟩] W _) := fun W hW => split3 (sep := ⟨#[32]⟩) (by omega) (by decide) (hL.belowX hpb hW) h3
  have hq : (c.toList == [71, 76, 67, 47, 49]) = false := by rw [q_of]; exact decide_eq_false hc
  have HB : Hid (∀ x, BelowX pb w0.heap.size w0 (w.alloc x)) := fun x => hb.alloc hb.size x
  clear h hb h3 hc
  go_enter Tryz.func46, Tryz.ntmps46
  go_wp2_with fail
  refine HS.out.mono ?_
  rintro e w1 ⟨rfl, rfl⟩
  go_wp2_with (go_at_call 47; refine (must_yes _).mono ?_; rintro e w' ⟨rfl, rfl⟩)
  have HBA := HB.out (.cells #[.string l0, .string l1, .string l2] 9)
  generalize w.alloc (.cells #[.string l0, .string l1, .string l2] 9) = wA at *
  have HB2 : Hid (∀ x, BelowX pb w0.heap.size w0 (wA.alloc x)) := fun x => HBA.alloc HBA.size x
  refine (HS2.out _ HBA).mono ?_
  rintro e w2 ⟨rfl, rfl⟩
  go_wp2_with (go_at_call 47; refine (must_no _).mono ?_; rintro e w' ⟨rfl, rfl⟩)
  exact ⟨rfl, HB2.out _, .inl ⟨HF.out, rfl⟩⟩
end Go.Proofs.YtnlooggibopknaaGreatDoor
