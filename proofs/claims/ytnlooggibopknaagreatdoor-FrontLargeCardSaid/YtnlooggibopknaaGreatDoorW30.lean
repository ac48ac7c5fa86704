/- A number in decimal digits: strconv.FormatUint at base 10; front.large. -/
import Derived.Test.YtnlooggibopknaaGreatDoorW29
import Derived.Lib.ItoaMem
import Derived.BigCall
import Derived.BigGuard
import Derived.Recover
import Derived.Defers
namespace Go.Proofs.YtnlooggibopknaaGreatDoor
open Go.RowKit Go.Sort

theorem holds_zeros (w : World) (T : TypeId) (nd : Nat) (hs : nd ≤ 24) : Holds (fun (b : UInt8) => Value.int .u8 (b.toNat : Int)) (w.alloc (.cells Lib.zeros24 T)) w.heap.size 0 (Array.replicate nd (0 : UInt8)) := fun j hj => by
  have hj' : j < nd := by simpa using hj
  refine ⟨?_, World.frozen?_alloc_new _ _ _ _⟩
  rw [World.cell?_alloc_new, Lib.zeros24_at _ (by omega), getElem!_pos _ j hj]
  simp
theorem fin_pos0 (w : World) (o : Obj) (dk : Array UInt8) (k : Nat) : Below w.heap.size w ((putRow (fun (b : UInt8) => Value.int .u8 (b.toNat : Int)) (w.alloc o) w.heap.size 0 dk).drewN k) := by
  rw [alloc_eq_grow]
  obtain ⟨os', _, e⟩ := putRow_grow_new (fun (b : UInt8) => Value.int .u8 (b.toNat : Int)) w #[o] w.heap.size 0 dk (Nat.le_refl _)
  rw [e]
  exact below_drewN (below_regrown w w.drawn os') k

set_option maxHeartbeats 6400000 in
set_option maxRecDepth 100000 in
theorem formatUint_10 (u : Nat) (w : World) (hu : u < 18446744073709551616) (hL : Lib0 w) :
    Calls Tryz.prog 93 #[.int .u64 u, .int .i64 10] w fun e w' => e = .returned (.string (decB u)) ∧ Below w.heap.size w w' := by
  by_cases hs : u < 100
  · have hsi : (u : Int) < 100 := by omega
    have hcv : IntKind.i64.wrap (u : Int) = (u : Int) := IntWalk.i64_in _ (by omega)
    clear hL
    go_enter Tryz.func93, Tryz.ntmps93
    go_wp2_with (go_at_call 118; refine (Tryz.internal_strconv_small u hs _).mono ?_; rintro e w' ⟨rfl, rfl⟩)
    go_ret
    exact ⟨rfl, Below.refl _ _⟩
  · have hu1 : 1 ≤ u := by omega
    have hsi : ¬ (u : Int) < 100 := by omega
    have hsd : decide ((u : Int) < 100) = false := decide_eq_false hsi
    have hnd20 : Lib.nDigits u ≤ 20 := by have := Lib.numDigits_eq u hu1 hu; split at this <;> omega
    have hal : Tryz.prog.arrayLen 137 = 24 := by simp [Program.arrayLen, Tryz.underlying137]
    have hsl : ∀ W, (Instr.sliceAt 137 (.pointer (some ⟨w.heap.size, 0, none⟩)) none (some (.int .i64 (Lib.nDigits u : Int))) none).run Tryz.prog W = .ok (.slice (some ⟨w.heap.size, 0, none⟩) (Lib.nDigits u) 24) W := fun W => by
      rw [run_sliceAt_array_h W 137 ⟨w.heap.size, 0, none⟩ (by simp [Program.arrayLen, Program.elem, Tryz.underlying137]) .i64 (Lib.nDigits u : Int) (by omega) (by rw [hal]; omega)]
      go_simp
    have hH0 := holds_zeros w 137 (Lib.nDigits u) (by omega)
    have hfmt := Tryz.internal_strconv_formatBase10 w.heap.size 0 24 u (Array.replicate (Lib.nDigits u) 0) (w.alloc (.cells Lib.zeros24 137)) hH0 (by rw [Array.size_replicate]; exact Lib.lt_pow_nDigits u) hu (by rw [Array.size_replicate]; omega)
    rw [Array.size_replicate] at hfmt
    have HH0 := Lib.hid hH0
    have HT := Lib.hid hL.pow
    clear hH0 hal hs hL
    go_enter Tryz.func93, Tryz.ntmps93
    go_wp2_with (go_at_call 119; refine (Tryz.internal_strconv_numDigits u hu1 hu _ (Lib.tabIs_alloc HT.out _)).mono ?_; rintro e w' ⟨rfl, rfl⟩)
    refine hfmt.mono ?_
    rintro e w' ⟨rfl, k, v', dk, rfl, hF⟩
    have hcv : (convert 24 9 (.slice (some ⟨w.heap.size, 0, none⟩) (Lib.nDigits u) 24)).run Tryz.prog ((putRow (fun (b : UInt8) => Value.int .u8 (b.toNat : Int)) (w.alloc (.cells Lib.zeros24 137)) w.heap.size 0 dk).drewN k) = .ok (.string ⟨(Lib.decDigits u).toArray⟩) ((putRow (fun (b : UInt8) => Value.int .u8 (b.toNat : Int)) (w.alloc (.cells Lib.zeros24 137)) w.heap.size 0 dk).drewN k) := by
      have h := run_convert_bytes_back (P := Tryz.prog) ((putRow (fun (b : UInt8) => Value.int .u8 (b.toNat : Int)) (w.alloc (.cells Lib.zeros24 137)) w.heap.size 0 dk).drewN k) 24 9 5 ⟨w.heap.size, 0, none⟩ 24 (Lib.decDigits u) Tryz.underlying24 Tryz.underlying5 Tryz.underlying9 (fun j hj => by
        rw [Lib.row_is_numeral hF j hj, Lib.add_plain, World.cell?_drewN]
        exact cell?_putRow (fun (b : UInt8) => Value.int .u8 (b.toNat : Int)) _ w.heap.size 0 _ dk HH0.out (by rw [hF.size, Array.size_replicate]) j (by rw [hF.size]; rw [Lib.decDigits_length] at hj; exact hj))
      rw [Lib.decDigits_length] at h
      exact h
    have hBl := Lib.hid (fin_pos0 w (.cells Lib.zeros24 137) dk k)
    clear hF hfmt
    go_wp2
    go_ret
    exact ⟨rfl, hBl.out⟩
theorem formatUintP_10 (u : Nat) (w : World) (hu : u < 18446744073709551616) (hL : Lib0 w) :
    Calls Tryz.prog 71 #[.int .u64 u, .int .i64 10] w fun e w' => e = .returned (.string (decB u)) ∧ Below w.heap.size w w' := by
  have C := Lib.hid (formatUint_10 u w hu hL)
  clear hu hL
  go_enter Tryz.func71, Tryz.ntmps71
  go_wp2_with fail
  refine C.out.mono ?_
  rintro e w' ⟨rfl, hb⟩
  have HB := Lib.hid hb
  clear hb
  go_wp2
  go_ret
  exact ⟨rfl, HB.out⟩

/-- Digits of a number above what an object may have. -/
def largeF (s : List UInt8) : Bool := match Lib.parseUintB 64 s with
  | .ok n => decide (s.length ≤ 19) && (Lib.decDigits n == s) && decide (16777216 < n)
  | _ => false
theorem largeF_ok {s : List UInt8} {n : Nat} (h : Lib.parseUintB 64 s = .ok n) : largeF s = (decide (s.length ≤ 19) && (Lib.decDigits n == s) && decide (16777216 < n)) := by unfold largeF; rw [h]

theorem parseM_le (M : Nat) : ∀ (l : List UInt8) (acc u : Nat), acc ≤ M → Lib.parseUintM M acc l = .ok u → u ≤ M
  | [], acc, u, ha, h => by simp only [Lib.parseUintM] at h; cases h; exact ha
  | c :: l, acc, u, ha, h => by
    simp only [Lib.parseUintM] at h
    split at h
    · split at h
      · cases h
      · split at h
        · cases h
        · exact parseM_le M l _ u (by omega) h
    · cases h
theorem parseB_le {s : List UInt8} {u : Nat} (h : Lib.parseUintB 64 s = .ok u) : u < 18446744073709551616 := by
  unfold Lib.parseUintB at h
  split at h
  · cases h
  · have := parseM_le _ _ _ _ (Nat.zero_le _) h
    simp at this
    omega

set_option maxHeartbeats 1000000 in
theorem large_any (s : ByteArray) (w : World) (hs : s.size ≤ 1073741824) (hL : Lib0 w) : Calls Tryz.prog 48 #[.string s] w fun e w' => e = .returned (.bool (largeF s.data.toList)) ∧ Below w.heap.size w w' := by
  have hsm : s.size ≤ 9223372036854775806 := by omega
  have hss : s.size ≤ 281474976710656 := by omega
  have hl : s.data.toList.length = s.size := Array.length_toList
  cases hp : Lib.parseUintB 64 s.data.toList with
  | ok u =>
    have hA := Lib.hid (Tryz.strconv_ParseUint_10_at64_ok s hsm u hp w)
    have hu := parseB_le hp
    have HF := Lib.hid (largeF_ok hp)
    have HU : Hid (∀ W, Below w.heap.size w W → Calls Tryz.prog 71 #[.int .u64 u, .int .i64 10] W fun e w' => e = .returned (.string (decB u)) ∧ Below W.heap.size W w') := fun W hb => formatUintP_10 u W hu (hL.below hb)
    clear hp hL
    by_cases h19 : s.size ≤ 19
    · have hi : (s.size : Int) ≤ 19 := by omega
      by_cases he : decB u = s
      · have hq : ((decB u).toList == s.toList) = true := str_same he
        have HE : Hid ((Lib.decDigits u == s.data.toList) = true) := by unfold Hid; rw [← he]; simp [decB]
        by_cases hg : 16777216 < u
        · have hgi : (16777216 : Int) < (u : Int) := by omega
          have HT : Hid (largeF s.data.toList = true) := by unfold Hid; rw [HF.out, HE.out, decide_eq_true hg, decide_eq_true (by omega)]; rfl
          clear he hl
          go_enter Tryz.func48, Tryz.ntmps48
          go_wp2_with fail
          refine hA.out.mono ?_
          rintro e w1 ⟨rfl, hw1⟩
          have hb1 : Below w.heap.size w w1 := by
            rcases hw1 with rfl | rfl
            · exact Below.refl _ _
            · exact Lib.bytesWorld_below w 5 s
          clear hw1
          go_wp2_with fail
          refine (HU.out _ hb1).mono ?_
          rintro e w2 ⟨rfl, hb2⟩
          go_wp2
          go_ret
          exact ⟨ret_bool HT.out.symm, hb1.trans (hb2.mono hb1.size)⟩
        · have hgi : ¬ (16777216 : Int) < (u : Int) := by omega
          have HT : Hid (largeF s.data.toList = false) := by unfold Hid; rw [HF.out, decide_eq_false hg]; simp
          clear he hl
          go_enter Tryz.func48, Tryz.ntmps48
          go_wp2_with fail
          refine hA.out.mono ?_
          rintro e w1 ⟨rfl, hw1⟩
          have hb1 : Below w.heap.size w w1 := by
            rcases hw1 with rfl | rfl
            · exact Below.refl _ _
            · exact Lib.bytesWorld_below w 5 s
          clear hw1
          go_wp2_with fail
          refine (HU.out _ hb1).mono ?_
          rintro e w2 ⟨rfl, hb2⟩
          go_wp2
          go_ret
          exact ⟨ret_bool (by rw [HT.out]; exact decide_eq_false (by omega)), hb1.trans (hb2.mono hb1.size)⟩
      · have hq : ((decB u).toList == s.toList) = false := str_other he
        have HT : Hid (largeF s.data.toList = false) := by
          unfold Hid; rw [HF.out]
          have : (Lib.decDigits u == s.data.toList) = false := by
            rw [beq_eq_false_iff_ne]; intro e; exact he (by unfold decB; rw [e])
          rw [this]; simp
        clear he hl
        go_enter Tryz.func48, Tryz.ntmps48
        go_wp2_with fail
        refine hA.out.mono ?_
        rintro e w1 ⟨rfl, hw1⟩
        have hb1 : Below w.heap.size w w1 := by
          rcases hw1 with rfl | rfl
          · exact Below.refl _ _
          · exact Lib.bytesWorld_below w 5 s
        clear hw1
        go_wp2_with fail
        refine (HU.out _ hb1).mono ?_
        rintro e w2 ⟨rfl, hb2⟩
        go_wp2
        go_ret
        exact ⟨ret_bool HT.out.symm, hb1.trans (hb2.mono hb1.size)⟩
    · have hi : ¬ (s.size : Int) ≤ 19 := by omega
      have HT : Hid (largeF s.data.toList = false) := by unfold Hid; rw [HF.out, decide_eq_false (by omega)]; rfl
      clear hl
      go_enter Tryz.func48, Tryz.ntmps48
      go_wp2_with fail
      refine hA.out.mono ?_
      rintro e w1 ⟨rfl, hw1⟩
      have hb1 : Below w.heap.size w w1 := by
        rcases hw1 with rfl | rfl
        · exact Below.refl _ _
        · exact Lib.bytesWorld_below w 5 s
      clear hw1
      go_wp2
      go_ret
      exact ⟨ret_bool HT.out.symm, hb1⟩
  | range =>
    obtain ⟨tp, p, hv⟩ := hL.rng
    have hA := Lib.hid (Tryz.strconv_ParseUint_10_at64_range_var s hss hp tp p w hv)
    have HT : Hid (largeF s.data.toList = false) := by unfold Hid largeF; rw [hp]
    clear hp hv hL hl
    go_enter Tryz.func48, Tryz.ntmps48
    go_wp2_with fail
    refine hA.out.mono ?_
    rintro e w1 ⟨N, rfl, _, _, hb1⟩
    have hneg : ∀ v : Value, v = v := fun _ => rfl
    clear hneg
    go_wp2
    go_ret
    exact ⟨ret_bool HT.out.symm, hb1⟩
  | _ =>
    obtain ⟨tp, p, hv⟩ := hL.syn
    have hA := Lib.hid (Tryz.strconv_ParseUint_10_at64_syntax_var s hss hp tp p w hv)
    have HT : Hid (largeF s.data.toList = false) := by unfold Hid largeF; rw [hp]
    clear hp hv hL hl
    go_enter Tryz.func48, Tryz.ntmps48
    go_wp2_with fail
    refine hA.out.mono ?_
    rintro e w1 ⟨N, rfl, _, _, hb1⟩
    go_wp2
    go_ret
    exact ⟨ret_bool HT.out.symm, hb1⟩

/-- What large tells: the digits of a number above the limit, of at most 19 digits. -/
theorem largeF_iff {s : List UInt8} : largeF s = true ↔ ∃ n, 16777216 < n ∧ n < 10 ^ 19 ∧ Lib.decDigits n = s := by
  constructor
  · intro h
    unfold largeF at h
    split at h
    · rename_i n hp
      simp only [Bool.and_eq_true, decide_eq_true_eq, beq_iff_eq] at h
      refine ⟨n, h.2, ?_, h.1.2⟩
      rw [← h.1.2, Lib.decDigits_length] at h
      have := Lib.lt_pow_nDigits n
      exact Nat.lt_of_lt_of_le this (Nat.pow_le_pow_right (by decide) h.1.1)
    · cases h
  · rintro ⟨n, h1, h2, rfl⟩
    rw [largeF_ok (parseB_dec n (by omega))]
    have := decDigits_len 18 n h2
    simp only [Bool.and_eq_true, decide_eq_true_eq, beq_iff_eq]
    exact ⟨⟨by omega, trivial⟩, h1⟩
end Go.Proofs.YtnlooggibopknaaGreatDoor

/- The walk of front.Parse's deferred closure: of a frame that returns; of one that panics with a status. -/
namespace Go.Proofs.YtnlooggibopknaaGreatDoor
open Go.RowKit Go.Sort

set_option maxRecDepth 100000 in
theorem catch_idle (p q : Addr) (w : World) :
    CallsD Tryz.prog 44 #[.pointer (some p), .pointer (some q)] .returning w fun e u' w' => e = .returned (.tuple #[]) ∧ u' = .returning ∧ w' = w := by
  refine callsD_of_wpS Tryz.func44 rfl fun c₀ cs hu => ?_
  apply wpS_seq
  apply wpS_region
  simp [wpOpsS, go_sem, recoverD, hu, Tryz.ntmps44, Exit.thenS]
  have ht : #[Value.pointer (some p), Value.pointer (some q)] ++ (Array.replicate 11 undef).setIfInBounds 3 Value.nilIface = #[.pointer (some p), .pointer (some q), undef, undef, undef, .nilIface, undef, undef, undef, undef, undef, undef, undef] := rfl
  rw [ht]
  refine wpS_of_wp ?_
  go_wp2
  cases c₀
  simp_all [bodyPostS, results, Tryz.results44]

/-- An op stored into a block of nine cells. -/
def setOp (w : World) (b : Nat) (o : O) (pv dv : Value) : World :=
  ((((((((w.setCell ⟨b, 0, none⟩ (.int .u64 o.id)).setCell ⟨b, 1, none⟩ (.int .i64 o.kind)).setCell ⟨b, 2, none⟩ (.string o.bu)).setCell ⟨b, 3, none⟩ (.string o.ke)).setCell ⟨b, 4, none⟩ (.string o.af)).setCell ⟨b, 5, none⟩ (.int .i64 o.n)).setCell ⟨b, 6, none⟩ (.int .u64 o.up)).setCell ⟨b, 7, none⟩ pv).setCell ⟨b, 8, none⟩ dv
theorem set9 (cs : Array Value) (hs : cs.size = 9) (a0 a1 a2 a3 a4 a5 a6 a7 a8 : Value) : ((((((((cs.setIfInBounds 0 a0).setIfInBounds 1 a1).setIfInBounds 2 a2).setIfInBounds 3 a3).setIfInBounds 4 a4).setIfInBounds 5 a5).setIfInBounds 6 a6).setIfInBounds 7 a7).setIfInBounds 8 a8 = #[a0, a1, a2, a3, a4, a5, a6, a7, a8] := by
  obtain ⟨l⟩ := cs
  have hl : l.length = 9 := hs
  have : ∃ b0 b1 b2 b3 b4 b5 b6 b7 b8, l = [b0, b1, b2, b3, b4, b5, b6, b7, b8] := by
    rcases l with _ | ⟨b0, _ | ⟨b1, _ | ⟨b2, _ | ⟨b3, _ | ⟨b4, _ | ⟨b5, _ | ⟨b6, _ | ⟨b7, _ | ⟨b8, _ | ⟨b9, l⟩⟩⟩⟩⟩⟩⟩⟩⟩⟩ <;> simp at hl
    exact ⟨_, _, _, _, _, _, _, _, _, rfl⟩
  obtain ⟨b0, b1, b2, b3, b4, b5, b6, b7, b8, rfl⟩ := this
  simp only [List.setIfInBounds_toArray, List.set_cons_zero, List.set_cons_succ]
theorem setOp_same {w : World} {b : Nat} {o : O} {pv dv : Value} {cs : Array Value} {t : TypeId} (h : w.heap[b]? = some (.cells cs t (0, 0))) (hs : cs.size = 9) : (setOp w b o pv dv).heap[b]? = some (.cells (pC o pv dv) t (0, 0)) := by
  unfold setOp pC
  rw [← set9 cs hs]
  exact heap_setCell_same _ b 8 _ _ _ (heap_setCell_same _ b 7 _ _ _ (heap_setCell_same _ b 6 _ _ _ (heap_setCell_same _ b 5 _ _ _ (heap_setCell_same _ b 4 _ _ _ (heap_setCell_same _ b 3 _ _ _ (heap_setCell_same _ b 2 _ _ _ (heap_setCell_same _ b 1 _ _ _ (heap_setCell_same _ b 0 _ _ _ h))))))))
theorem setOp_other (w : World) (b : Nat) (o : O) (pv dv : Value) (k : Nat) (hn : k ≠ b) : (setOp w b o pv dv).heap[k]? = w.heap[k]? := by
  unfold setOp
  simp only [Below.heap_setCell _ ⟨b, _, none⟩ _ k hn]
theorem setOp_below (w : World) (b : Nat) (o : O) (pv dv : Value) : BelowX b w.heap.size w (setOp w b o pv dv) :=
  ((((((((BelowX.refl b w).setP 0 _).setP 1 _).setP 2 _).setP 3 _).setP 4 _).setP 5 _).setP 6 _).setP 7 _ |>.setP 8 _
theorem RowX.setOp {pb q : Nat} {w : World} {v : Value} {xs : List Value} (h : RowX pb w v xs) (hq : q ≤ pb) (o : O) (pv dv : Value) : RowX pb (setOp w q o pv dv) v xs :=
  ((((((((h.set hq 0 _).set hq 1 _).set hq 2 _).set hq 3 _).set hq 4 _).set hq 5 _).set hq 6 _).set hq 7 _).set hq 8 _
def zeroCs : Array Value := pC zeroO (.slice none 0 0) (.slice none 0 0)
set_option maxHeartbeats 1000000 in
set_option maxRecDepth 100000 in
theorem catch_bad (b0 b1 : Nat) (x : Int) (v1 : Value) (older : List PanicEntry) (w : World) (hne : b0 ≠ b1) (h0 : w.heap[b0]? = some (.cells zeroCs 26 (0, 0))) (h1 : w.heap[b1]? = some (.cells #[v1] 3 (0, 0))) :
    CallsD Tryz.prog 44 #[.pointer (some ⟨b0, 0, none⟩), .pointer (some ⟨b1, 0, none⟩)] (.panicking ({ v := .iface 3 (.int .i64 x), recovered := false } :: older)) w fun e u' w' =>
      e = .returned (.tuple #[]) ∧ u' = .panicking ({ v := .iface 3 (.int .i64 x), recovered := true } :: older) ∧ w' = (setOp w b0 zeroO (.slice none 0 0) (.slice none 0 0)).setCell ⟨b1, 0, none⟩ (.int .i64 x) := by
  have c0 : w.cell? ⟨b0, 0, none⟩ = some (.int .u64 0) := cell_of_row _ _ 0 _ _ _ h0
  have c1 : w.cell? ⟨b0, 1, none⟩ = some (.int .i64 0) := cell_of_row _ _ 1 _ _ _ h0
  have c2 : w.cell? ⟨b0, 2, none⟩ = some (.string ⟨#[]⟩) := cell_of_row _ _ 2 _ _ _ h0
  have c3 : w.cell? ⟨b0, 3, none⟩ = some (.string ⟨#[]⟩) := cell_of_row _ _ 3 _ _ _ h0
  have c4 : w.cell? ⟨b0, 4, none⟩ = some (.string ⟨#[]⟩) := cell_of_row _ _ 4 _ _ _ h0
  have c5 : w.cell? ⟨b0, 5, none⟩ = some (.int .i64 0) := cell_of_row _ _ 5 _ _ _ h0
  have c6 : w.cell? ⟨b0, 6, none⟩ = some (.int .u64 0) := cell_of_row _ _ 6 _ _ _ h0
  have c7 : w.cell? ⟨b0, 7, none⟩ = some (.slice none 0 0) := cell_of_row _ _ 7 _ _ _ h0
  have c8 : w.cell? ⟨b0, 8, none⟩ = some (.slice none 0 0) := cell_of_row _ _ 8 _ _ _ h0
  have f : ∀ j, w.frozen? ⟨b0, j, none⟩ = false := fun j => frozen_of_row w b0 j _ _ h0
  have d0 : w.cell? ⟨b1, 0, none⟩ = some v1 := cell_of_row _ _ 0 _ _ _ h1
  have fd : w.frozen? ⟨b1, 0, none⟩ = false := frozen_of_row w b1 0 _ _ h1
  have hta : ∀ W, (Instr.typeAssert (.iface 3 (.int .i64 x)) 20 3 true).run Tryz.prog W = .ok (.tuple #[.int .i64 x, .bool true]) W := fun _ => by kernel_rfl
  clear h0 h1
  refine callsD_of_wpS Tryz.func44 rfl fun c₀ cs hu => ?_
  apply wpS_seq
  apply wpS_region
  simp [wpOpsS, go_sem, recoverD, hu, Tryz.ntmps44, Exit.thenS]
  have ht : #[Value.pointer (some { block := b0, off := 0 }), Value.pointer (some { block := b1, off := 0 })] ++ (Array.replicate 11 undef).setIfInBounds 3 (Value.iface 3 (Value.int IntKind.i64 x)) = #[.pointer (some { block := b0, off := 0 }), .pointer (some { block := b1, off := 0 }), undef, undef, undef, .iface 3 (.int .i64 x), undef, undef, undef, undef, undef, undef, undef] := rfl
  rw [ht]
  refine wpS_of_wp ?_
  go_wp2
  cases c₀
  simp_all [bodyPostS, results, Tryz.results44, setOp, zeroO]
end Go.Proofs.YtnlooggibopknaaGreatDoor
