/- The walk of the parser's upload. -/
import Derived.Test.YtnlooggibopknaaGreatDoorNum
import Derived.Test.YtnlooggibopknaaGreatDoorApp
import Derived.Test.YtnlooggibopknaaGreatDoorW16
import Derived.Test.YtnlooggibopknaaGreatDoorW19
import Derived.Laws.Rows
namespace Go.Proofs.YtnlooggibopknaaGreatDoor
open Go.RowKit Go.Sort

theorem upId_size (s : ByteArray) (h : s.size ≤ 1073741824) : (upId s).size ≤ 1073741824 := by
  unfold upId
  split
  · rw [ByteArray.size_extract]; omega
  · exact h
theorem gPow : Tryz.prog.globalNamed "internal/strconv.uint64pow10" = some 1 := by kernel_rfl
/-- The parser's op lies in block pb. -/
def pC (o : O) (pv dv : Value) : Array Value := #[.int .u64 o.id, .int .i64 o.kind, .string o.bu, .string o.ke, .string o.af, .int .i64 o.n, .int .u64 o.up, pv, dv]
def PIs (w : World) (pb : Nat) (o : O) (pv dv : Value) : Prop := w.heap[pb]? = some (.cells (pC o pv dv) 73 (0, 0))
theorem PIs.below {w w' : World} {pb : Nat} {o : O} {pv dv : Value} (h : PIs w pb o pv dv) {B : Nat} (hb : Below B w w') (hB : pb < B) : PIs w' pb o pv dv := (hb.block pb hB).trans h
theorem PIs.lt {w : World} {pb : Nat} {o : O} {pv dv : Value} (h : PIs w pb o pv dv) : pb < w.heap.size := by
  rcases Nat.lt_or_ge pb w.heap.size with hl | hg
  · exact hl
  · unfold PIs at h; rw [Array.getElem?_eq_none hg] at h; cases h
theorem PIs.cell {w : World} {pb : Nat} {o : O} {pv dv : Value} (h : PIs w pb o pv dv) (j : Nat) (u : Value) (hj : (pC o pv dv)[j]? = some u) : w.cell? ⟨pb, j, none⟩ = some u := (cell_of_row w pb j _ _ _ h).trans hj
theorem PIs.fz {w : World} {pb : Nat} {o : O} {pv dv : Value} (h : PIs w pb o pv dv) (j : Nat) : w.frozen? ⟨pb, j, none⟩ = false := frozen_of_row w pb j _ _ h
theorem PIs.set {w : World} {pb : Nat} {o o' : O} {pv dv pv' dv' : Value} (h : PIs w pb o pv dv) (j : Nat) (v : Value) (he : (pC o pv dv).setIfInBounds j v = pC o' pv' dv') : PIs (w.setCell ⟨pb, j, none⟩ v) pb o' pv' dv' := by
  have := heap_setCell_same w pb j _ _ v h
  rw [he] at this
  exact this

/-- All that lies under a line is as it was, but the parser's own block. -/
structure BelowX (pb B : Nat) (a w : World) : Prop where
  os : w.os = a.os
  tape : w.tape = a.tape
  output : w.output = a.output
  size : a.heap.size ≤ w.heap.size
  block : ∀ k, k < B → k ≠ pb → w.heap[k]? = a.heap[k]?
theorem BelowX.refl (pb : Nat) (w : World) : BelowX pb w.heap.size w w := ⟨rfl, rfl, rfl, Nat.le_refl _, fun _ _ _ => rfl⟩
theorem BelowX.of {pb B : Nat} {a w : World} (h : Below B a w) : BelowX pb B a w := ⟨h.os, h.tape, h.output, h.size, fun k hk _ => h.block k hk⟩
theorem BelowX.to {pb B : Nat} {a w : World} (h : BelowX pb B a w) (hB : B ≤ pb) : Below B a w := ⟨h.os, h.tape, h.output, h.size, fun k hk => h.block k hk (by omega)⟩
theorem BelowX.trans {pb B : Nat} {a w w' : World} (h : BelowX pb B a w) (h2 : Below B w w') : BelowX pb B a w' := ⟨h2.os.trans h.os, h2.tape.trans h.tape, h2.output.trans h.output, Nat.le_trans h.size h2.size, fun k hk hn => (h2.block k hk).trans (h.block k hk hn)⟩
theorem BelowX.andX {pb B C : Nat} {a w w' : World} (h : BelowX pb B a w) (h2 : BelowX pb C w w') (hBC : B ≤ C) : BelowX pb B a w' := ⟨h2.os.trans h.os, h2.tape.trans h.tape, h2.output.trans h.output, Nat.le_trans h.size h2.size, fun k hk hn => (h2.block k (by omega) hn).trans (h.block k hk hn)⟩
theorem BelowX.drewN {pb B : Nat} {a w : World} (h : BelowX pb B a w) (n : Nat) : BelowX pb B a (w.drewN n) := ⟨h.os, h.tape, h.output, h.size, h.block⟩
theorem BelowX.alloc {pb B : Nat} {a w : World} (h : BelowX pb B a w) (hB : B ≤ w.heap.size) (o : Obj) : BelowX pb B a (w.alloc o) := h.trans (((Below.refl w.heap.size w).alloc (Nat.le_refl _) o).mono hB)
theorem BelowX.grown {pb B : Nat} {a w w' : World} {row : Option Nat} (h : BelowX pb B a w) (hg : w.grownBy w' row) (hB : B ≤ w.heap.size) (hr : ∀ k, row = some k → B ≤ k) : BelowX pb B a w' :=
  h.trans ⟨hg.os, hg.tape, hg.output, hg.size, fun k hk => hg.block k (by omega) (fun e => by have := hr k e.symm; omega)⟩
theorem BelowX.setP {pb B : Nat} {a w : World} (h : BelowX pb B a w) (j : Nat) (v : Value) : BelowX pb B a (w.setCell ⟨pb, j, none⟩ v) :=
  ⟨h.os, h.tape, h.output, by simpa [World.setCell] using h.size, fun k hk hn => (Below.heap_setCell w ⟨pb, j, none⟩ v k hn).trans (h.block k hk hn)⟩
theorem Lib0.belowX {pb : Nat} {w w' : World} (h : Lib0 w) (h8 : 8 ≤ pb) (hb : BelowX pb w.heap.size w w') : Lib0 w' := by
  have hc : ∀ b o v, b < 8 → w.cell? ⟨b, o, none⟩ = some v → w'.cell? ⟨b, o, none⟩ = some v := fun b o v hb8 hv => by
    have hlt : b < w.heap.size := World.block_lt_of_cell? w _ hv
    exact (World.cell?_of_block (a := ⟨b, o, none⟩) (hb.block b hlt (by omega))).trans hv
  have hv : ∀ nm g cs, Tryz.prog.globalNamed nm = some g → g < 8 → w.var? Tryz.prog nm = some cs → w'.var? Tryz.prog nm = some cs := fun nm g cs hg hg8 hvv => by
    obtain ⟨g', hg', hl⟩ := var_lives hvv
    rw [hg] at hg'
    cases hg'
    unfold World.var? at hvv ⊢
    rw [hg] at hvv ⊢
    simp only [Option.bind_some] at hvv ⊢
    rw [hb.block g hl (by omega)]
    exact hvv
  obtain ⟨⟨m, hm⟩, h2, ⟨t1, p1, h3⟩, ⟨t2, p2, h4⟩, h5⟩ := h
  exact ⟨⟨m, hc 0 0 _ (by decide) hm⟩, hv _ 1 _ gPow (by decide) h2, ⟨t1, p1, hv _ 2 _ gSyn (by decide) h3⟩, ⟨t2, p2, hv _ 3 _ gRng (by decide) h4⟩, hc 5 15 _ (by decide) h5⟩

/-- A row outside the parser's block. -/
structure RowX (pb : Nat) (w : World) (v : Value) (xs : List Value) : Prop where
  c : RowC w v xs
  off : ∀ b o n cap, v = .slice (some ⟨b, o, none⟩) n cap → 0 < n → pb < b
theorem RowX.nil (pb : Nat) (w : World) (a : Option Addr) (c : Nat) : RowX pb w (.slice a 0 c) [] := ⟨RowC.nil w a c, fun _ _ _ _ h h0 => by cases h; omega⟩
theorem RowX.own {pb : Nat} {w : World} {base e n : Nat} {v : Value} {xs : List Value} (h : w.ownsRow base e 1 v n xs) (hb : pb < base) : RowX pb w v xs :=
  ⟨RowC.own h, fun b o m c hv _ => by have := own_lt h b (by rw [hv]; rfl); omega⟩
theorem RowX.below {pb : Nat} {w w' : World} {v : Value} {xs : List Value} (h : RowX pb w v xs) (hb : Below w.heap.size w w') : RowX pb w' v xs := ⟨h.c.below hb, h.off⟩
theorem RowX.set {pb q : Nat} {w : World} {v : Value} {xs : List Value} (h : RowX pb w v xs) (hq : q ≤ pb) (j : Nat) (x : Value) : RowX pb (w.setCell ⟨q, j, none⟩ x) v xs := by
  refine ⟨⟨?_, h.c.cap⟩, h.off⟩
  rcases h.c.row with h1 | ⟨b, o, c, h0, h1, h2, h3⟩
  · exact .inl h1
  · have hn : b ≠ q := by have := h.off b o _ c h1 h0; omega
    refine .inr ⟨b, o, c, h0, h1, by simpa [World.setCell] using h2, fun k u hk => ?_⟩
    rw [World.cell?_of_block (a := ⟨b, o + k, none⟩) (Below.heap_setCell w ⟨q, j, none⟩ x b hn)]
    exact h3 k u hk

/-- How a piece of the parser ends: it stops, or the op is as the plain word says. -/
def PrE (r : Option O) (w0 : World) (pb : Nat) (e : Ending) (w' : World) : Prop :=
  BelowX pb w0.heap.size w0 w' ∧ ((r = none ∧ e = badE) ∨ ∃ o pv, r = some o ∧ e = .returned (.tuple #[]) ∧ PIs w' pb o pv (.slice none 0 0) ∧ RowX pb w' pv (icells o.ps))

theorem cutPrefix_any (s p : ByteArray) (w : World) : Calls Tryz.prog 82 #[.string s, .string p] w fun e w' => e = .returned (.tuple #[.string (tp s p), .bool (hp s p)]) ∧ w = w' := flipW (Tryz.strings_CutPrefix s p w)

theorem tp_len (s p : ByteArray) (h : s.size ≤ 1073741824) : (Lib.trimPrefix s.data.toList p.data.toList).length ≤ 1073741824 := by
  have hs : s.data.toList.length = s.size := Array.length_toList
  unfold Lib.trimPrefix
  split
  · rw [List.length_drop]; omega
  · omega

/-- unsixteen, where it reads and where it does not. -/
theorem un_no {t : ByteArray} {W : World} (ht : t.size ≤ 1073741824) (hL : Lib0 W) (hu : unhexL t.data.toList = none) : Calls Tryz.prog 83 #[.string t] W fun e w' => (∃ n : Nat, e = .returned (.tuple #[.int .u64 n, .bool false])) ∧ Below W.heap.size W w' :=
  (unsixteen_any t W ht hL).mono fun e w' ⟨n, _, he, _, hb'⟩ => by rw [hu] at he; exact ⟨⟨n, he⟩, hb'⟩
theorem un_yes {t : ByteArray} {W : World} {u : Nat} (ht : t.size ≤ 1073741824) (hL : Lib0 W) (hu : unhexL t.data.toList = some u) : Calls Tryz.prog 83 #[.string t] W fun e w' => e = .returned (.tuple #[.int .u64 u, .bool true]) ∧ Below W.heap.size W w' :=
  (unsixteen_any t W ht hL).mono fun e w' ⟨n, _, he, hn, hb'⟩ => by rw [hu] at he; rw [he, hn u hu]; exact ⟨rfl, hb'⟩

set_option maxHeartbeats 1000000 in
set_option maxRecDepth 1000000 in
theorem upload_bad (how s : ByteArray) (w0 w : World) (pb : Nat) (hL : Lib0 w0) (hb : BelowX pb w0.heap.size w0 w) (hpb : 8 ≤ pb) (hs : s.size ≤ 1073741824)
    (hu : unhexL (upId s).data.toList = none) : Calls Tryz.prog 103 #[.pointer (some ⟨pb, 0, none⟩), .string how, .string s] w (PrE (uploadF how s) w0 pb) := by
  have HF : Hid (uploadF how s = none) := uploadF_none hu
  have HU : Hid (∀ W, BelowX pb w0.heap.size w0 W → ∀ t, t = upId s → Calls Tryz.prog 83 #[.string t] W fun e w' => (∃ n : Nat, e = .returned (.tuple #[.int .u64 n, .bool false])) ∧ Below W.heap.size W w') := fun W hbW t ht => ht ▸ un_no (upId_size s hs) (hL.belowX hpb hbW) hu
  have HB := Lib.hid hb
  clear hu
  by_cases h16 : 16 < s.size
  · have hi : (16 : Int) < (s.size : Int) := by omega
    have hi2 : (16 : Int) ≤ (s.size : Int) := by omega
    have hi3 : 16 ≤ s.size := by omega
    have he : upId s = s.extract 0 16 := by unfold upId; rw [if_pos h16]
    have HU2 : Hid (∀ n, Calls Tryz.prog 83 #[.string (s.extract 0 16)] (w.drewN n) _) := fun n => HU.out (w.drewN n) (hb.drewN n) _ he.symm
    clear he hb
    go_enter Tryz.func103, Tryz.ntmps103
    go_upto_region 2 with fail
    go_quiet (fail)
    go_wp2_with (go_at_call 83; refine (HU2.out _).mono ?_; rintro e w1 ⟨⟨n, rfl⟩, hb1⟩)
    go_wp2_with (go_at_call 47; refine (must_no _).mono ?_; rintro e w' ⟨rfl, rfl⟩)
    refine ⟨rfl, (HB.out.drewN nq).trans (hb1.mono HB.out.size), .inl ⟨HF.out, rfl⟩⟩
  · have hi : ¬ (16 : Int) < (s.size : Int) := by omega
    have he : upId s = s := by unfold upId; rw [if_neg h16]
    have HU2 := Lib.hid (HU.out w hb _ he.symm)
    clear he hb
    go_enter Tryz.func103, Tryz.ntmps103
    go_wp2_with (go_at_call 83; refine HU2.out.mono ?_; rintro e w1 ⟨⟨n, rfl⟩, hb1⟩)
    go_wp2_with (go_at_call 47; refine (must_no _).mono ?_; rintro e w' ⟨rfl, rfl⟩)
    refine ⟨rfl, HB.out.trans (hb1.mono HB.out.size), .inl ⟨HF.out, rfl⟩⟩

set_option maxHeartbeats 2000000 in
set_option maxRecDepth 1000000 in
theorem upload_put (how s : ByteArray) (w0 w : World) (pb u : Nat) (hL : Lib0 w0) (hb : BelowX pb w0.heap.size w0 w) (hpb : 8 ≤ pb) (hs : s.size ≤ 1073741824) (hP : PIs w pb zeroO (.slice none 0 0) (.slice none 0 0))
    (hu : unhexL (upId s).data.toList = some u) (h16 : 16 < s.size) (h1 : hp (upRest s) sPart = true) (h2 : how = bPUT) : Calls Tryz.prog 103 #[.pointer (some ⟨pb, 0, none⟩), .string how, .string s] w (PrE (uploadF how s) w0 pb) := by
  have HF : Hid (uploadF how s = (numF (tp (upRest s) sPart).data.toList).map (opPart u)) := by unfold Hid; rw [uploadF_some hu]; unfold uploadU; rw [if_pos ⟨h1, h2⟩]
  have he : upId s = s.extract 0 16 := by unfold upId; rw [if_pos h16]
  have he2 : upRest s = s.extract 16 s.size := by unfold upRest; rw [if_pos h16]
  have HU : Hid (∀ n, Calls Tryz.prog 83 #[.string (s.extract 0 16)] (w.drewN n) _) := fun n => he ▸ un_yes (upId_size s hs) (hL.belowX hpb (hb.drewN n)) hu
  rw [he2] at h1 HF
  have hq : (how.toList == [80, 85, 84]) = true := by rw [h2, ByteArray.toList_eq]; rfl
  clear h2
  have hi : (16 : Int) < (s.size : Int) := by omega
  have hi2 : (16 : Int) ≤ (s.size : Int) := by omega
  have hi3 : 16 ≤ s.size := by omega
  have HB := Lib.hid hb
  have HP := Lib.hid hP
  have hlt := hP.lt
  have hp1 : hp (s.extract 16 s.size) ⟨#[38, 112, 97, 114, 116, 61]⟩ = true := h1
  clear he he2 hu hb hP h1
  go_enter Tryz.func103, Tryz.ntmps103
  go_upto_region 2 with fail
  go_quiet (fail)
  go_wp2_with (go_at_call 83; refine (HU.out _).mono ?_; rintro e w1 ⟨rfl, hb1⟩)
  have hP1 : PIs w1 pb zeroO (.slice none 0 0) (.slice none 0 0) := PIs.below (w := w.drewN nq) HP.out hb1 hlt
  have hB1 : BelowX pb w0.heap.size w0 w1 := (HB.out.drewN nq).trans (hb1.mono HB.out.size)
  have c6 := hP1.cell 6 _ rfl
  have f6 := hP1.fz 6
  have HP1 := Lib.hid hP1
  have HB1 := Lib.hid hB1
  clear hb1 hP1 hB1
  go_wp2_with fail
  refine (must_yes _).mono ?_; rintro e w' ⟨rfl, rfl⟩
  go_wp2_with fail
  have hP2 : PIs (w1.setCell ⟨pb, 6, none⟩ (.int .u64 u)) pb ⟨0, 0, ⟨#[]⟩, ⟨#[]⟩, ⟨#[]⟩, 0, u, [], []⟩ (.slice none 0 0) (.slice none 0 0) := HP1.out.set 6 _ rfl
  have hB2 : BelowX pb w0.heap.size w0 (w1.setCell ⟨pb, 6, none⟩ (.int .u64 u)) := HB1.out.setP _ _
  generalize w1.setCell ⟨pb, 6, none⟩ (.int .u64 (u : Int)) = w2 at *
  clear c6 f6 HP1 HB1
  have c1 := hP2.cell 1 _ rfl
  have f1 := hP2.fz 1
  refine (cutPrefix_any _ _ _).mono ?_; rintro e w' ⟨rfl, rfl⟩
  go_wp2_with fail
  have hP3 : PIs (w2.setCell ⟨pb, 1, none⟩ (.int .i64 8)) pb ⟨0, 8, ⟨#[]⟩, ⟨#[]⟩, ⟨#[]⟩, 0, u, [], []⟩ (.slice none 0 0) (.slice none 0 0) := hP2.set 1 _ rfl
  have hB3 : BelowX pb w0.heap.size w0 (w2.setCell ⟨pb, 1, none⟩ (.int .i64 8)) := hB2.setP _ _
  generalize w2.setCell ⟨pb, 1, none⟩ (.int .i64 8) = w3 at *
  clear c1 f1 hP2 hB2
  refine (number_any _ _ (by show (List.toArray _).size ≤ _; rw [List.size_toArray]; exact tp_len _ _ (by rw [ByteArray.size_extract]; omega)) (hL.belowX hpb hB3)).mono ?_
  rintro e w4 ⟨n, rfl, _, hn, hb4⟩
  have hP4 := hP3.below hb4 hP3.lt
  have hB4 : BelowX pb w0.heap.size w0 w4 := hB3.trans (hb4.mono hB3.size)
  have c5 := hP4.cell 5 _ rfl
  have f5 := hP4.fz 5
  have HN := Lib.hid hn
  clear hb4 hP3 hB3 hn
  cases hx : numF (tp (s.extract 16 s.size) ⟨#[38, 112, 97, 114, 116, 61]⟩).data.toList with
  | none =>
    have HF2 : Hid (uploadF how s = none) := by rw [HF.out]; show Option.map _ (numF (tp (s.extract 16 s.size) ⟨#[38, 112, 97, 114, 116, 61]⟩).data.toList) = none; rw [hx]; rfl
    simp only [Option.isSome_none]
    clear hx
    go_wp2_with (go_at_call 47; refine (must_no _).mono ?_; rintro e w' ⟨rfl, rfl⟩)
    refine ⟨rfl, hB4.setP _ _, .inl ⟨HF2.out, rfl⟩⟩
  | some m =>
    have HF2 : Hid (uploadF how s = some (opPart u m)) := by rw [HF.out]; show Option.map _ (numF (tp (s.extract 16 s.size) ⟨#[38, 112, 97, 114, 116, 61]⟩).data.toList) = _; rw [hx]; rfl
    obtain rfl := HN.out m hx
    simp only [Option.isSome_some]
    clear hx HN
    go_wp2_with (go_at_call 47; refine (must_yes _).mono ?_; rintro e w' ⟨rfl, rfl⟩)
    go_end0
    refine ⟨hB4.setP _ _, .inr ⟨opPart u m, .slice none 0 0, HF2.out, rfl, hP4.set 5 _ rfl, RowX.nil _ _ _ _⟩⟩
end Go.Proofs.YtnlooggibopknaaGreatDoor
