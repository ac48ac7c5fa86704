/- The law FrontLarge, walked. -/
import Derived.Test.YtnlooggibopknaaGreatDoorLq
namespace Go.Proofs.YtnlooggibopknaaGreatDoor
open Go.RowKit Go.Sort

/-- The number's digits: so many more at most. -/
def DigM (k : Nat) (t : ByteArray) : Prop := t.size ≤ 20 ∧ k < 10 ^ (20 - t.size)
theorem dig_start {n : Nat} (h : n < 2 ^ 64) : DigM n ⟨#[]⟩ := ⟨Nat.zero_le _, Nat.lt_of_lt_of_le h (by decide)⟩
theorem dig_step {k : Nat} {t : ByteArray} {x : Int} (h : DigM k t) (hc : 0 < k ∨ t.size = 0) : DigM (k / 10) (oneB x ++ t) := by
  obtain ⟨h1, h2⟩ := h
  have hs : (oneB x ++ t).size = t.size + 1 := by rw [ByteArray.size_append, oneB_size]; omega
  have h3 : t.size < 20 := by
    rcases hc with hc | hc
    · rcases Nat.lt_or_ge t.size 20 with h | h
      · exact h
      · rw [show 20 - t.size = 0 by omega] at h2
        omega
    · omega
  refine ⟨by omega, ?_⟩
  rw [hs]
  have e : 10 ^ (20 - t.size) = 10 ^ (20 - (t.size + 1)) * 10 := by rw [← Nat.pow_succ]; congr 1; omega
  rw [e] at h2
  exact Nat.div_lt_of_lt_mul (by rw [Nat.mul_comm]; exact h2)
theorem dig_zero {t : ByteArray} (h : t.size ≤ 1) : DigM 0 t := ⟨by omega, Nat.pow_pos (by decide)⟩
theorem dig_lt {k : Nat} {t : ByteArray} (h : DigM k t) : k < 100000000000000000000 :=
  Nat.lt_of_lt_of_le h.2 (Nat.le_trans (Nat.pow_le_pow_right (by decide) (Nat.sub_le 20 t.size)) (by decide))
def szOfV : Value → Nat
  | .string s => s.size
  | _ => 0
/-- A row of bytes, all of the call's own. -/
def LongW (wr : World) (B N : Nat) : Prop := ∃ L : List UInt8, L.length = N ∧ wr.heap[B]? = some (.cells (bcells L).toArray 5 (0, 0))
theorem long_cell {wr : World} {B N : Nat} (h : LongW wr B N) {k : Nat} (hk : k < N) : ∃ c : UInt8, wr.cell? ⟨B, k, none⟩ = some (.int .u8 (c.toNat : Int)) ∧ wr.frozen? ⟨B, k, none⟩ = false := by
  obtain ⟨L, hl, hb⟩ := h
  refine ⟨L[k]'(by omega), ?_, frozen_of_row wr B k _ _ hb⟩
  rw [cell_of_row wr B k _ _ _ hb]
  simp [bcells, hl, hk]
theorem long_set {wr : World} {B N : Nat} (h : LongW wr B N) (k : Nat) : LongW (wr.setCell ⟨B, k, none⟩ (.int .u8 120)) B N := by
  obtain ⟨L, hl, hb⟩ := h
  refine ⟨L.set k 120, by rw [List.length_set]; exact hl, ?_⟩
  rw [heap_setCell_same wr B k _ _ (.int .u8 120) hb]
  congr 2
  apply Array.toList_inj.1
  simp [bcells, List.map_set]
set_option maxRecDepth 100000 in
theorem make_bytes (M : Nat) (h : M ≤ 100000) (W : World) : (Instr.makeSlice 24 (.int .i64 (M : Int)) (.int .i64 (M : Int))).run Tryz.prog W = .ok (.slice (some ⟨W.heap.size, 0, none⟩) M M) (W.alloc (.cells (Array.replicate M (.int .u8 0)) 5)) := by
  obtain ⟨i0, hi, hz0, hz1, hz2⟩ := info_parts info5
  have hr := run_makeSlice (P := Tryz.prog) W 24 5 i0 (.int .u8 0) Tryz.underlying24 hi hz0 .i64 .i64 (M : Int) (M : Int) (by omega) (Int.le_refl _) (by rw [hz1, Int.toNat_natCast]; omega) (by rw [hz2]; omega) (by omega)
  rw [hr, hz1]
  simp only [Int.toNat_natCast, Nat.mul_one]
  congr 3
  unfold madeCells
  apply Array.ext
  · simp
  · intro i h1 h2
    simp
    show (#[Value.int .u8 0] : Array Value)[i % 1]! = _
    rw [Nat.mod_one]
    rfl
theorem long_new (w : World) (N : Nat) : LongW (w.alloc (.cells (Array.replicate N (.int .u8 0)) 5)) w.heap.size N := by
  refine ⟨List.replicate N 0, List.length_replicate, ?_⟩
  rw [heap_alloc_new w _]
  congr 2
  apply Array.toList_inj.1
  simp [bcells]
theorem long_own {wr : World} {B N : Nat} (h : LongW wr B N) (hN : N ≤ 100000) : ∃ L : List UInt8, L.length = N ∧ wr.ownsRow B 5 1 (.slice (some ⟨B, 0, none⟩) N N) N (bcells L) := by
  obtain ⟨L, hl, hb⟩ := h
  exact ⟨L, hl, by rw [bcells_len]; omega, .inr ⟨B, N, _, rfl, Nat.le_refl _, hb, Nat.le_refl _, by unfold maxLen; omega, by simp [bcells, hl], by
    show List.take _ (bcells L) = _
    exact List.take_of_length_le (by rw [bcells_len, hl]; omega)⟩⟩

set_option maxHeartbeats 32000000 in
set_option maxRecDepth 1000000 in
theorem large_law (n : Nat) (ba : Option Addr) (bc : Nat) (l : List UInt8) (part : Bool) (fill : Int) (w : World) (hn : n < 2 ^ 64) (hm : RowC w (.slice ba l.length bc) (bcells l)) (hmr : l.length ≤ 140737488355328) (hL : Lib0 w) :
    Calls Tryz.prog 5 #[.int .u64 n, .slice ba l.length bc, .bool part, .int .i64 fill] w fun e w' => e = .returned (.bool true) ∧ Below w.heap.size w w' := by
  have HK := Lib.hid (known_law w hL)
  have HL := Lib.hid hL
  have HM := Lib.hid hm
  have HDS := Lib.hid (dig_start hn)
  clear hL hm hn
  by_cases hml : 1000 < l.length
  · have hmi : (1000 : Int) < (l.length : Int) := by omega
    go_enter Tryz.func5, Tryz.ntmps5
    go_wp2_with fail
    refine HK.out.mono ?_
    rintro e w1 ⟨rfl, hb1⟩
    have HB1 := Lib.hid hb1
    clear hb1
    go_wp2
    go_ret
    exact ⟨rfl, HB1.out⟩
  · have hmi : ¬ (1000 : Int) < (l.length : Int) := by omega
    go_enter Tryz.func5, Tryz.ntmps5
    go_wp2_with fail
    refine HK.out.mono ?_
    rintro e w1 ⟨rfl, hb1⟩
    have HB1 := Lib.hid hb1
    clear hb1
    go_wp2_with fail
    go_loopw [0, 9] (fun x v wr => ∃ (k : Nat) (t : ByteArray), x = .int .u64 k ∧ v = .string t ∧ Hid (DigM k t) ∧ Hid (Below w.heap.size w wr)) (fun x v _ => 2 * (intOf x).toNat + (if szOfV v = 0 then 1 else 0))
    case atStart => exact ⟨n, ⟨#[]⟩, rfl, rfl, HDS.out, HB1.out⟩
    case round =>
      obtain ⟨k, t, rfl, rfl, hd, hb⟩ := hrel
      have hk20 : k < 100000000000000000000 := dig_lt hd.out
      have hts : t.size ≤ 20 := hd.out.1
      by_cases hgo : 0 < k ∨ t.size = 0
      · have hcv := fun (W : World) => convert_new1 W (48 + (k : Int) % 10) (by omega) (by omega)
        have h1 := oneB_size (48 + (k : Int) % 10)
        have hgq : ((0 : Int) < (k : Int)) ∨ (¬ ((0 : Int) < (k : Int)) ∧ t.toList = [] ∧ k = 0 ∧ t.size = 0) := by
          by_cases hk0 : 0 < k
          · exact .inl (by omega)
          · have ht0 : t.size = 0 := hgo.resolve_left hk0
            exact .inr ⟨by omega, by rw [ByteArray.toList_eq]; exact List.eq_nil_of_length_eq_zero (by rw [show t.data.toList.length = t.size from bl_len t]; exact ht0), by omega, ht0⟩
        have HGO := Lib.hid hgo
        clear hgo
        rcases hgq with hk0 | ⟨hk0, ht0, hkz, htz⟩
        · go_wp2_with fail
          go_roundw
          case rel => exact ⟨k / 10, _, by go_num, rfl, dig_step hd.out HGO.out, hb.out.alloc hb.out.size _⟩
          case measure => simp [intOf, szOfV]; repeat (first | omega | split)
        · subst hkz
          obtain rfl : t = ⟨#[]⟩ := ba_zero (by omega)
          have hcv := fun (W : World) => convert_new1 W 48 (by omega) (by omega)
          have h1 := oneB_size 48
          clear ht0 htz hk0
          go_wp2_with fail
          go_roundw
          case rel => exact ⟨0, _, rfl, rfl, dig_zero (by first | (rw [ByteArray.size_append, oneB_size]; decide) | (rw [oneB_size]; decide)), hb.out.alloc hb.out.size _⟩
          case measure =>
            have e : ¬ (oneB 48 = ByteArray.empty) := by intro h; have := congrArg ByteArray.size h; exact absurd this (by decide)
            have e0 : (⟨#[]⟩ : ByteArray) = ByteArray.empty := rfl
            simp [intOf, szOfV, e, e0]
      · have hk0 : ¬ (0 : Int) < (k : Int) := by omega
        have ht0 : (t.toList == ([] : List UInt8)) = false := by
          rw [beq_eq_false_iff_ne]
          intro e
          rw [ByteArray.toList_eq] at e
          have := congrArg List.length e
          rw [show t.data.toList.length = t.size from bl_len t] at this
          exact hgo (.inr this)
        clear hgo
        have HBR := Lib.hid hb.out
        clear hd hb hk20
        have HTS := Lib.hid hts
        go_upto_if 43 with fail
        go_cut [10] (fun s10 wx => ∃ x : ByteArray, s10 = .string x ∧ x.size ≤ 40 ∧ wx = wr)
        case first =>
          cases part with
          | true =>
            go_wp2_with fail
            go_meet
            exact ⟨_, rfl, by decide, rfl⟩
          | false =>
            go_wp2_with fail
            go_meet
            exact ⟨_, rfl, by decide, rfl⟩
        case rest =>
          obtain ⟨x, rfl, hx40, hwx⟩ := hcut
          have hwx := hwx.symm
          subst hwx
          have hbr := HBR.out
          obtain ⟨S, hS⟩ : ∃ S, ⟨#[80, 85, 84, 32]⟩ ++ x ++ ⟨#[32, 71, 76, 67, 47, 49, 13, 10, 105, 100, 58, 32, 48, 48, 48, 48, 48, 48, 48, 48, 48, 48, 48, 48, 48, 48, 48, 49, 13, 10, 108, 101, 110, 103, 116, 104, 58, 32]⟩ ++ t ++ ⟨#[13, 10, 13, 10]⟩ = S := ⟨_, rfl⟩
          have hSz : S.size ≤ 200 := by
            rw [← hS]
            rw [ByteArray.size_append, ByteArray.size_append, ByteArray.size_append, ByteArray.size_append]
            show 4 + x.size + 38 + t.size + 4 ≤ 200
            omega
          have hcv := Lib.run_convert_string_bytes (P := Tryz.prog) wr 9 24 5 S (u := .string) Tryz.underlying9 Tryz.underlying24 Tryz.underlying5
          obtain ⟨v, w3, happ, hrow, hb3⟩ := append_conv wr S (.slice ba l.length bc) l (HM.out.row.below hbr) (by omega)
          generalize Lib.bytesWorld wr 5 S = WB at *
          have HA := Lib.hid happ
          have HB3 : Hid (Below w.heap.size w w3) := hbr.trans (hb3.mono hbr.size)
          obtain ⟨b, hbl, hbz⟩ : ∃ b : List UInt8, b = S.data.toList ++ l ∧ b.length ≤ 2000 := ⟨_, rfl, by rw [List.length_append, show S.data.toList.length = S.size from bl_len S]; omega⟩
          rw [← hbl] at hrow
          have HPa : Hid (∀ W, Below w3.heap.size w3 W → Calls Tryz.prog 19 #[v] W (PaR (parseF b) W)) := fun W hb => parse_any b _ W (hrow.below hb) (by omega) (HL.out.below (HB3.out.trans (hb.mono HB3.out.size)))
          have HPb : Hid (∀ W, Below w3.heap.size w3 W → Calls Tryz.prog 20 #[v] W (PaR (parseF b) W)) := fun W hb => parseR_any b _ W (hrow.below hb) (by omega)
          have HPS := Lib.hid (parseF_ps b)
          clear happ hb3 hrow hbl hbz hbr
          go_upto_region 13 with (at_builtin; refine wpList_append_run rfl _ _ 24 rfl _ _ v w3 rfl rfl HA.out ?_)
          clear hS hcv
          go_wp2_with fail
          refine (HPa.out _ (Below.refl _ _)).mono ?_
          generalize parseF b = rs at *
          obtain ⟨r, s⟩ := rs
          rintro e w4 ⟨pv, dv, rfl, hpv, hdv, hb4⟩
          simp only at hpv hdv
          obtain ⟨a1, q1, rfl⟩ := rowC_sliceI hpv
          obtain ⟨a2, q2, rfl⟩ := rowC_sliceB hdv
          obtain ⟨W5, hW5, HB5, hb5, hk, hlt5⟩ := opBox2 hb4 hb4.size r (.slice a1 r.ps.length q1) (.slice a2 r.da.length q2)
          have HR5 := Lib.hid (And.intro (hpv.row.below hb5) (hdv.row.below hb5))
          have HK5 := Lib.hid hk
          have HLT := Lib.hid hlt5
          have HB5 := Lib.hid HB5
          unfold pC at hW5
          clear hpv hdv hb4 hb5 hk hlt5
          go_upto_region 14 with fail
          rw [← hW5]
          clear hW5
          go_wp2_with fail
          refine (HPb.out _ HB5.out).mono ?_
          rintro e w6 ⟨pv, dv, rfl, hpv, hdv, hb6⟩
          simp only at hpv hdv
          obtain ⟨a3, q3, rfl⟩ := rowC_sliceI hpv
          obtain ⟨a4, q4, rfl⟩ := rowC_sliceB hdv
          have HB6 := Lib.hid (HB5.out.trans (hb6.mono HB5.out.size))
          obtain ⟨W7, hW7, HB7, hb7, hk, hlt7⟩ := opBox2 HB6.out HB6.out.size r (.slice a3 r.ps.length q3) (.slice a4 r.da.length q4)
          have hb57 := hb6.trans (hb7.mono hb6.size)
          have HR7 := Lib.hid (And.intro (hpv.row.below hb7) (hdv.row.below hb7))
          have HB7 := Lib.hid (HB3.out.trans (HB7.mono HB3.out.size))
          have HS : Hid (Calls Tryz.prog 21 #[opV r (.slice a1 r.ps.length q1) (.slice a2 r.da.length q2), opV r (.slice a3 r.ps.length q3) (.slice a4 r.da.length q4)] W7 fun e w' => e = .returned (.bool true) ∧ Below W7.heap.size W7 w') :=
            same_yes r a1 a2 a3 a4 q1 q2 q3 q4 W7 HPS.out (HR5.out.1.below hb57) (HR5.out.2.below hb57) HR7.out.1 HR7.out.2
          have HH := Lib.hid fun (j : Nat) (u : Value) (hj : (pC r (.slice a1 r.ps.length q1) (.slice a2 r.da.length q2))[j]? = some u) => ((bcell hb57).1 w4.heap.size j HLT.out).trans (HK5.out j u hj)
          have HH2 := Lib.hid hk
          unfold pC at hW7
          clear hpv hdv hb6 hb7 hk hlt7 hb57
          go_upto_region 15 with fail
          rw [← hW7]
          clear hW7
          have k0 : W7.cell? ⟨w4.heap.size, 0, none⟩ = some (.int .u64 r.id) := HH.out 0 _ rfl
          have k1 : W7.cell? ⟨w4.heap.size, 1, none⟩ = some (.int .i64 r.kind) := HH.out 1 _ rfl
          have k2 : W7.cell? ⟨w4.heap.size, 2, none⟩ = some (.string r.bu) := HH.out 2 _ rfl
          have k3 : W7.cell? ⟨w4.heap.size, 3, none⟩ = some (.string r.ke) := HH.out 3 _ rfl
          have k4 : W7.cell? ⟨w4.heap.size, 4, none⟩ = some (.string r.af) := HH.out 4 _ rfl
          have k5 : W7.cell? ⟨w4.heap.size, 5, none⟩ = some (.int .i64 r.n) := HH.out 5 _ rfl
          have k6 : W7.cell? ⟨w4.heap.size, 6, none⟩ = some (.int .u64 r.up) := HH.out 6 _ rfl
          have k7 : W7.cell? ⟨w4.heap.size, 7, none⟩ = some (.slice a1 r.ps.length q1) := HH.out 7 _ rfl
          have k8 : W7.cell? ⟨w4.heap.size, 8, none⟩ = some (.slice a2 r.da.length q2) := HH.out 8 _ rfl
          have c0 : W7.cell? ⟨w6.heap.size, 0, none⟩ = some (.int .u64 r.id) := HH2.out 0 _ rfl
          have c1 : W7.cell? ⟨w6.heap.size, 1, none⟩ = some (.int .i64 r.kind) := HH2.out 1 _ rfl
          have c2 : W7.cell? ⟨w6.heap.size, 2, none⟩ = some (.string r.bu) := HH2.out 2 _ rfl
          have c3 : W7.cell? ⟨w6.heap.size, 3, none⟩ = some (.string r.ke) := HH2.out 3 _ rfl
          have c4 : W7.cell? ⟨w6.heap.size, 4, none⟩ = some (.string r.af) := HH2.out 4 _ rfl
          have c5 : W7.cell? ⟨w6.heap.size, 5, none⟩ = some (.int .i64 r.n) := HH2.out 5 _ rfl
          have c6 : W7.cell? ⟨w6.heap.size, 6, none⟩ = some (.int .u64 r.up) := HH2.out 6 _ rfl
          have c7 : W7.cell? ⟨w6.heap.size, 7, none⟩ = some (.slice a3 r.ps.length q3) := HH2.out 7 _ rfl
          have c8 : W7.cell? ⟨w6.heap.size, 8, none⟩ = some (.slice a4 r.da.length q4) := HH2.out 8 _ rfl
          go_wp2_with fail
          refine HS.out.mono ?_
          rintro e w8 ⟨rfl, hb8⟩
          have HB8 := Lib.hid (HB7.out.trans (hb8.mono HB7.out.size))
          clear hb8 k0 k1 k2 k3 k4 k5 k6 k7 k8 c0 c1 c2 c3 c4 c5 c6 c7 c8
          obtain ⟨f, hf⟩ : ∃ f, Int.tmod fill 8 = f := ⟨_, rfl⟩
          have hf1 : -8 < f := by rw [← hf]; exact (tmod_in fill (by omega)).1
          have hf2 : f < 8 := by rw [← hf]; exact (tmod_in fill (by omega)).2
          go_upto_if 75 with fail
          go_cut [3] (fun s3 wx => ∃ g : Nat, s3 = .int .i64 (g : Int) ∧ g < 8 ∧ wx = w8)
          case first =>
            by_cases hneg : f < 0
            · go_wp2_with fail
              go_meet
              exact ⟨(0 - f).toNat, by go_num, by omega, rfl⟩
            · go_wp2_with fail
              go_meet
              exact ⟨f.toNat, by go_num, by omega, rfl⟩
          case rest =>
            obtain ⟨g, rfl, hg8, hwx⟩ := hcut
            have hwx := hwx.symm
            subst hwx
            clear hf hf1 hf2
            obtain ⟨M, hM, hM1, hM2⟩ : ∃ M : Nat, (65530 : Int) + (g : Int) = (M : Int) ∧ 65530 ≤ M ∧ M ≤ 65537 := ⟨65530 + g, by omega, by omega, by omega⟩
            have hmk := make_bytes M (by omega) w8
            have HLW := Lib.hid (long_new w8 M)
            have HB9 : Hid (Below w.heap.size w (w8.alloc (.cells (Array.replicate M (.int .u8 0)) 5))) := HB8.out.alloc HB8.out.size _
            generalize w8.alloc (.cells (Array.replicate M (.int .u8 0)) 5) = w9 at *
            have HW8 : Hid (w.heap.size ≤ w8.heap.size) := HB8.out.size
            go_upto_region 21 with fail
            clear hmk
            go_wp2_with fail
            go_loopw [17] (fun i wr => ∃ k : Nat, k ≤ M ∧ i = .int .i64 k ∧ Hid (LongW wr w8.heap.size M) ∧ Hid (Below w.heap.size w wr)) (fun i _ => M - (intOf i).toNat)
            case atStart => exact ⟨0, Nat.zero_le _, rfl, HLW.out, HB9.out⟩
            case round =>
              obtain ⟨k, hk, rfl, hlw, hb⟩ := hrel
              by_cases hlt : k < M
              · obtain ⟨c, hcell, hfr⟩ := long_cell hlw.out hlt
                have HLS := Lib.hid (long_set hlw.out k)
                have HBS := Lib.hid (hb.out.setCell (p := ⟨w8.heap.size, k, none⟩) HW8.out (.int .u8 120))
                go_wp2_with fail
                go_roundw
                case rel => exact ⟨k + 1, by omega, by go_num, HLS.out, HBS.out⟩
                case measure => simp [intOf]; omega
              · obtain rfl : k = M := by omega
                obtain ⟨L, hL, hown⟩ := long_own hlw.out (by omega)
                obtain ⟨i0, hi, hz0, hz1, hz2⟩ := info_parts info5
                have HOW := Lib.hid hown
                have HBR := Lib.hid hb.out
                have HLL := Lib.hid hL
                have HSZ : Hid (w8.heap.size ≤ wr.heap.size) := by
                  obtain ⟨L', _, hb'⟩ := hlw.out
                  exact Nat.le_of_lt (lt_of_at hb')
                clear hown hb hlw hL
                go_upto_region 26 with (at_builtin; refine Lib.wpList_append_own_string _ rfl _ _ 24 9 rfl w8.heap.size 5 i0 Tryz.underlying24 Tryz.underlying9 hi hz0 hz1 hz2 _ _ _ rfl HOW.out ⟨#[13, 10, 13, 10]⟩ rfl (by unfold maxLen; show k + 4 ≤ _; omega) (by show k + 4 ≤ _; omega) HSZ.out ?_; intro v10 w10 hown10 hgr10 _)
                have hbw10 : Below w8.heap.size wr w10 := (Below.refl _ _).grown hgr10 HSZ.out (own_lt HOW.out)
                have HB10 : Hid (Below w.heap.size w w10) := HBR.out.trans (hbw10.mono HW8.out)
                obtain ⟨n4, hn4⟩ : ∃ n4, k + 4 = n4 := ⟨_, rfl⟩
                have hrow : RowC w10 v10 (bcells (L ++ CC)) := by
                  have := RowC.own hown10
                  rw [bcells_app]
                  exact this
                have hlen : (L ++ CC).length = n4 := by rw [List.length_append, HLL.out, ← hn4]; rfl
                obtain ⟨gg, cp, hv10, _, _⟩ := hown10.form (by show 0 < k + 4; omega)
                rw [show k + (⟨#[13, 10, 13, 10]⟩ : ByteArray).size = n4 from hn4] at hv10
                subst hv10
                have hcap := hrow.cap _ _ _ rfl
                have hrow2 := hrow.front hlen k (by omega)
                have hz4 : (L ++ CC).length ≤ 1073741824 := by omega
                have hz5 : ((L ++ CC).take k).length ≤ 1073741824 := by rw [List.length_take]; omega
                have HP1 : Hid (∀ W, Below w10.heap.size w10 W → Calls Tryz.prog 19 #[.slice (some ⟨gg, 0, none⟩) n4 cp] W (PaR (parseF (L ++ CC)) W)) := fun W hb => parse_any _ _ W (hrow.below hb) hz4 (HL.out.below (HB10.out.trans (hb.mono HB10.out.size)))
                have HP2 : Hid (∀ W, Below w10.heap.size w10 W → Calls Tryz.prog 20 #[.slice (some ⟨gg, 0, none⟩) n4 cp] W (PaR (parseF (L ++ CC)) W)) := fun W hb => parseR_any _ _ W (hrow.below hb) hz4
                have HP3 : Hid (∀ W, Below w10.heap.size w10 W → Calls Tryz.prog 19 #[.slice (some ⟨gg, 0, none⟩) k cp] W (PaR (parseF ((L ++ CC).take k)) W)) := fun W hb => parse_any _ _ W (hrow2.below hb) hz5 (HL.out.below (HB10.out.trans (hb.mono HB10.out.size)))
                have HP4 : Hid (∀ W, Below w10.heap.size w10 W → Calls Tryz.prog 20 #[.slice (some ⟨gg, 0, none⟩) k cp] W (PaR (parseF ((L ++ CC).take k)) W)) := fun W hb => parseR_any _ _ W (hrow2.below hb) hz5
                have hsub : (n4 : Int) - 4 = (k : Int) := by omega
                have hkc : k ≤ cp := by omega
                have hkci : (k : Int) ≤ (cp : Int) := by omega
                clear hrow hrow2 hz4 hz5 hlen hown10 hgr10 hbw10 hcap hn4
                go_wp2_with fail
                refine (HP1.out _ (Below.refl _ _)).mono ?_
                generalize parseF (L ++ CC) = rs1 at *
                obtain ⟨r1, s1⟩ := rs1
                rintro e w11 ⟨pv, dv, rfl, hpv, hdv, hb11⟩
                simp only at hpv hdv
                obtain ⟨a5, q5, rfl⟩ := rowC_sliceI hpv
                obtain ⟨a6, q6, rfl⟩ := rowC_sliceB hdv
                have HB11 := Lib.hid hb11
                clear hpv hdv hb11
                go_wp2_with fail
                refine (HP2.out _ HB11.out).mono ?_
                rintro e w12 ⟨pv, dv, rfl, hpv, hdv, hb12⟩
                simp only at hpv hdv
                obtain ⟨a7, q7, rfl⟩ := rowC_sliceI hpv
                obtain ⟨a8, q8, rfl⟩ := rowC_sliceB hdv
                have HB12 := Lib.hid (HB11.out.trans (hb12.mono HB11.out.size))
                clear hpv hdv hb12
                go_wp2_with fail
                refine (HP3.out _ HB12.out).mono ?_
                generalize parseF ((L ++ CC).take k) = rs2 at *
                obtain ⟨r2, s2⟩ := rs2
                rintro e w13 ⟨pv, dv, rfl, hpv, hdv, hb13⟩
                simp only at hpv hdv
                obtain ⟨a9, q9, rfl⟩ := rowC_sliceI hpv
                obtain ⟨a10, q10, rfl⟩ := rowC_sliceB hdv
                have HB13 := Lib.hid (HB12.out.trans (hb13.mono HB12.out.size))
                obtain ⟨W14, hW14, HB14, _, _, _⟩ := opBox2 HB13.out HB13.out.size r2 (.slice a9 r2.ps.length q9) (.slice a10 r2.da.length q10)
                have HB14 := Lib.hid HB14
                unfold pC at hW14
                clear hpv hdv hb13
                go_upto_region 29 with fail
                rw [← hW14]
                clear hW14
                go_wp2_with fail
                refine (HP4.out _ HB14.out).mono ?_
                rintro e w15 ⟨pv, dv, rfl, hpv, hdv, hb15⟩
                simp only at hpv hdv
                obtain ⟨a11, q11, rfl⟩ := rowC_sliceI hpv
                obtain ⟨a12, q12, rfl⟩ := rowC_sliceB hdv
                have HB15 := Lib.hid (HB14.out.trans (hb15.mono HB14.out.size))
                obtain ⟨W16, hW16, HB16, _, _, _⟩ := opBox2 HB15.out HB15.out.size r2 (.slice a11 r2.ps.length q11) (.slice a12 r2.da.length q12)
                have HB16 := Lib.hid (HB10.out.trans (HB16.mono HB10.out.size))
                unfold pC at hW16
                clear hpv hdv hb15
                go_upto_region 30 with fail
                rw [← hW16]
                clear hW16
                go_wp2
                go_ret
                exact ⟨rfl, HB16.out⟩
end Go.Proofs.YtnlooggibopknaaGreatDoor
