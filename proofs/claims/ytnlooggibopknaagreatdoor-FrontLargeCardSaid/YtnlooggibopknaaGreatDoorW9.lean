/- strconv.ParseUint at base 16: what it gives of sixteen digits, and that it comes back of whatever text. -/
import Derived.Test.YtnlooggibopknaaGreatDoorW6
import Derived.Lib.ConvBytes
import Derived.Lib.AtoiAllMem
import Derived.Lib.AtoiErrMem
import Derived.Laws.Strings3
import Derived.Laws.Closers25
import Derived.Laws.Closers25b
import Derived.BigCall
import Derived.BigGuard
namespace Go.Proofs.YtnlooggibopknaaGreatDoor
open Go.RowKit

theorem lower_hex : ∀ d : Fin 6, bits BinOp.or IntKind.u8 ((97 + d.val : Nat) : Int) 32 = ((97 + d.val : Nat) : Int) := by decide +kernel
theorem lower_hex' (c : Int) (h0 : 97 ≤ c) (h1 : c ≤ 102) : bits BinOp.or IntKind.u8 c 32 = c := by
  have := lower_hex ⟨(c - 97).toNat, by omega⟩
  simp only at this
  rw [show ((97 + (c - 97).toNat : Nat) : Int) = c from by omega] at this
  exact this
theorem hex_char (d : Nat) (hd : d < 16) (c : UInt8) (h : c = UInt8.ofNat (digN (d : Int) 97).toNat) : (c.toNat = 48 + d ∧ d < 10) ∨ (c.toNat = 87 + d ∧ 10 ≤ d) := by
  subst h
  unfold digN
  rw [UInt8.toNat_ofNat']
  split
  · left; omega
  · right; omega
def isMaxU (x : Int) : Prop := x = 18446744073709551615

set_option maxHeartbeats 1600000 in
set_option maxRecDepth 100000 in
theorem parse16_yes (t : ByteArray) (m : Nat) (w : World) (hm : m < 2 ^ 64) (ht : hexL m = t.data.toList) :
    Calls Tryz.prog 110 #[.string t, .int .i64 16, .int .i64 64] w fun e w' => e = .returned (.tuple #[.int .u64 m, .nilIface]) ∧ w' = Lib.bytesWorld w 5 t := by
  have hsz : t.size = 16 := by have := hexL_len m; rw [ht] at this; exact Array.length_toList.symm.trans this
  have hne : t.size ≠ 0 := by omega
  have hemp : t.toList.isEmpty = false := by
    rw [← decide_eq_emptyBytes]
    exact decide_eq_false (fun h => hne (by rw [h]; rfl))
  have hcv := Lib.run_convert_string_bytes (P := Tryz.prog) w 9 24 5 t (u := .string) Tryz.underlying9 Tryz.underlying24 Tryz.underlying5
  have hB : ∀ j, j < t.size → (Lib.bytesWorld w 5 t).cell? ⟨w.heap.size, j, none⟩ = some (.int .u8 (t.data.toList.getD j 0).toNat) := fun j hj => Lib.bytesWorld_cell w 5 t j hj
  obtain ⟨W1, hW1⟩ : ∃ W1, W1 = Lib.bytesWorld w 5 t := ⟨_, rfl⟩
  rw [← hW1] at hcv hB ⊢
  clear hW1
  have HB := Lib.hid hB
  have HT := Lib.hid ht
  have HM := Lib.hid hm
  have hs1 : (t.size : Int) ≤ 16 := by omega
  have hs2 : 16 ≤ (t.size : Int) := by omega
  have hmv : IntKind.u64.wrap (IntKind.u64.wrap 18446744073709551616 - 1) = 18446744073709551615 := by
    rw [IntKind.wrap_u64, IntKind.wrap_u64]
    decide
  clear hB ht hm hne hsz
  go_enter Tryz.func110, Tryz.ntmps110
  go_wp2
  go_loop [12, 13, 101] (fun vu vn vi => ∃ (k : Nat) (a : Int), vu = .bool false ∧ vn = .int .u64 a ∧ vi = .int .i64 k ∧ k ≤ 16 ∧ Hid (a = ((m / 16 ^ (16 - k) : Nat) : Int))) (fun _ _ vi => 16 - (intOf vi).toNat)
  case atStart => exact ⟨0, 0, rfl, rfl, rfl, by omega, by have := HM.out; show (0 : Int) = _; rw [Nat.div_eq_of_lt (by simpa using this)]; rfl⟩
  case round =>
    obtain ⟨k, a, rfl, rfl, rfl, hk, ha⟩ := hrel
    by_cases hlt : k < 16
    · have hki : (k : Int) < t.size := by omega
      have hd : m / 16 ^ (15 - k) % 16 < 16 := Nat.mod_lt _ (by decide)
      have hdiv : m / 16 ^ (16 - k) = m / 16 ^ (15 - k) / 16 := by rw [Nat.div_div_eq_div_mul, ← Nat.pow_succ]; congr 2; omega
      have hq : m / 16 ^ (15 - k) < 2 ^ 64 := Nat.lt_of_le_of_lt (Nat.div_le_self _ _) HM.out
      have hch := hex_char _ hd _ (hexL_get m k hlt)
      have hc0 := HB.out k (by omega)
      have hge : t.data.toList.getD k 0 = (hexL m)[k]'(by rw [hexL_len]; exact hlt) := by rw [← HT.out]; simp [List.getD, List.getElem?_eq_getElem (show k < (hexL m).length by rw [hexL_len]; exact hlt)]
      rw [hge] at hc0
      generalize (hexL m)[k]'(by rw [hexL_len]; exact hlt) = c at *
      generalize hqq : m / 16 ^ (15 - k) = q at *
      obtain ⟨d, hdd⟩ : ∃ d, d = q % 16 := ⟨_, rfl⟩
      rw [← hdd] at hd hch
      have hA : a = ((q / 16 : Nat) : Int) := by rw [ha.out, hdiv]
      have ha0 : 0 ≤ a := by omega
      have ha1 : a < 1152921504606846976 := by omega
      have hnew : Hid (a * 16 + (d : Int) = (q : Int)) := by unfold Hid; omega
      have HN : Hid (a * 16 + (d : Int) = ((m / 16 ^ (16 - (k + 1)) : Nat) : Int)) := by rw [show 16 - (k + 1) = 15 - k from by omega, hqq]; exact hnew.out
      clear hge hdiv hqq hA ha hnew hdd hq
      rcases hch with ⟨hc1, hc2⟩ | ⟨hc1, hc2⟩
      · have hce : (c.toNat : Int) = 48 + (d : Int) := by omega
        rw [hce] at hc0
        have hd0 : 0 ≤ (d : Int) := by omega
        have hd1 : (d : Int) < 10 := by omega
        clear hc1 hce hc2 hd
        go_wp2
        go_round
        case rel => exact ⟨k + 1, _, rfl, rfl, by go_num, by omega, by have := HN.out; unfold Hid; omega⟩
        case measure => simp [intOf]; omega
      · have hce : (c.toNat : Int) = 87 + (d : Int) := by omega
        rw [hce] at hc0
        have hd0 : 10 ≤ (d : Int) := by omega
        have hd1 : (d : Int) < 16 := by omega
        have hlow : bits BinOp.or IntKind.u8 (87 + (d : Int)) 32 = 87 + (d : Int) := lower_hex' _ (by omega) (by omega)
        clear hc1 hce hc2 hd
        go_wp2_with (go_at_call 129; refine (flipW (Tryz.internal_strconv_lower _ _)).mono ?_; rintro e w' ⟨rfl, rfl⟩)
        go_round
        case rel => exact ⟨k + 1, _, rfl, rfl, by go_num, by omega, by have := HN.out; unfold Hid; omega⟩
        case measure => simp [intOf]; omega
    · obtain rfl : k = 16 := by omega
      have hf : a = (m : Int) := by have := ha.out; simpa using this
      subst hf
      clear ha
      go_wp2
      go_ret2
      exact ⟨rfl, rfl⟩

/-- What a text that is no sixteen digits may give: some number, and no error or one of two. -/
def SomeU (w : World) (e : Ending) (w' : World) : Prop := ∃ (n : Int) (x : Value), 0 ≤ n ∧ n < 18446744073709551616 ∧ (x = .nilIface ∨ x = .iface 147 (.int .i64 1) ∨ x = .iface 147 (.int .i64 2)) ∧ e = .returned (.tuple #[.int .u64 n, x]) ∧ Below w.heap.size w w'

set_option maxHeartbeats 3200000 in
set_option maxRecDepth 100000 in
theorem parse16_any (t : ByteArray) (w : World) (ht : t.size ≤ 1073741824) :
    Calls Tryz.prog 110 #[.string t, .int .i64 16, .int .i64 64] w (SomeU w) := by
  by_cases hne : t.size = 0
  · have hemp : t.toList.isEmpty = true := by
      rw [← decide_eq_emptyBytes]
      exact decide_eq_true (by cases t with | mk d => simp [ByteArray.size] at hne; simp [hne]; rfl)
    clear hne ht
    go_enter Tryz.func110, Tryz.ntmps110
    go_wp2
    go_ret2
    exact ⟨0, _, by omega, by omega, .inr (.inr rfl), rfl, Below.refl _ _⟩
  · have hemp : t.toList.isEmpty = false := by
      rw [← decide_eq_emptyBytes]
      exact decide_eq_false (fun h => hne (by rw [h]; rfl))
    have hcv := Lib.run_convert_string_bytes (P := Tryz.prog) w 9 24 5 t (u := .string) Tryz.underlying9 Tryz.underlying24 Tryz.underlying5
    have hB : ∀ j, j < t.size → (Lib.bytesWorld w 5 t).cell? ⟨w.heap.size, j, none⟩ = some (.int .u8 (t.data.toList.getD j 0).toNat) := fun j hj => Lib.bytesWorld_cell w 5 t j hj
    have hbl : Below w.heap.size w (Lib.bytesWorld w 5 t) := Lib.bytesWorld_below w 5 t
    obtain ⟨W1, hW1⟩ : ∃ W1, W1 = Lib.bytesWorld w 5 t := ⟨_, rfl⟩
    rw [← hW1] at hcv hB hbl
    clear hW1
    have HB := Lib.hid hB
    have HL := Lib.hid hbl
    have hmv : IntKind.u64.wrap (IntKind.u64.wrap 18446744073709551616 - 1) = 18446744073709551615 := by
      rw [IntKind.wrap_u64, IntKind.wrap_u64]
      decide
    clear hB hne hbl
    go_enter Tryz.func110, Tryz.ntmps110
    go_wp2
    go_loop [12, 13, 101] (fun vu vn vi => ∃ (k : Nat) (a : Int), vu = .bool false ∧ vn = .int .u64 a ∧ vi = .int .i64 k ∧ k ≤ t.size ∧ 0 ≤ a ∧ a < 18446744073709551616) (fun _ _ vi => t.size - (intOf vi).toNat)
    case atStart => exact ⟨0, 0, rfl, rfl, rfl, by omega, by omega, by omega⟩
    case round =>
      obtain ⟨k, a, rfl, rfl, rfl, hk, ha0, ha1⟩ := hrel
      by_cases hlt : k < t.size
      · have hc0 := HB.out k hlt
        generalize (t.data.toList.getD k 0) = c at hc0
        have hc := c.toNat_lt
        have hv0 := bits_lo_u8 .or (c.toNat : Int) 32
        have hv1 := bits_hi_u8 .or (c.toNat : Int) 32
        have hu0 := bits_lo_u8 .or 95 32
        have hu1 := bits_hi_u8 .or 95 32
        by_cases hcut : a < 1152921504606846976
        · go_wp2_with (go_at_call 129; refine (flipW (Tryz.internal_strconv_lower _ _)).mono ?_; rintro e w' ⟨rfl, rfl⟩)
          all_goals first
            | (go_round
               case rel => exact ⟨k + 1, _, rfl, rfl, by go_num, by omega, by omega, by omega⟩
               case measure => simp [intOf]; omega)
            | (go_ret2
               refine ⟨_, _, ?_, ?_, ?_, rfl, HL.out⟩
               · omega
               · omega
               · first | exact .inl rfl | exact .inr (.inl rfl) | exact .inr (.inr rfl))
        · go_wp2_with (go_at_call 129; refine (flipW (Tryz.internal_strconv_lower _ _)).mono ?_; rintro e w' ⟨rfl, rfl⟩)
          all_goals first
            | (go_round
               case rel => exact ⟨k + 1, _, rfl, rfl, by go_num, by omega, by omega, by omega⟩
               case measure => simp [intOf]; omega)
            | (go_ret2
               refine ⟨_, _, ?_, ?_, ?_, rfl, HL.out⟩
               · omega
               · omega
               · first | exact .inl rfl | exact .inr (.inl rfl) | exact .inr (.inr rfl))
      · go_wp2
        go_ret2
        exact ⟨a, .nilIface, ha0, ha1, .inl rfl, rfl, HL.out⟩
end Go.Proofs.YtnlooggibopknaaGreatDoor

/- strconv.ParseUint at base 16, front.unsixteen. -/
namespace Go.Proofs.YtnlooggibopknaaGreatDoor
open Go.RowKit

/-- strconv.ParseUint's: a number, and no error or one. -/
def SomeP (w : World) (e : Ending) (w' : World) : Prop := ∃ (n : Int) (x : Value), 0 ≤ n ∧ n < 18446744073709551616 ∧ (x = .nilIface ∨ ∃ N, x = .iface 149 (.pointer (some ⟨N, 0, none⟩))) ∧ e = .returned (.tuple #[.int .u64 n, x]) ∧ Below w.heap.size w w'

theorem var_cell {w : World} {nm : String} {g : Nat} {v : Value} (hg : Tryz.prog.globalNamed nm = some g) (h : w.var? Tryz.prog nm = some #[v]) : w.cell? ⟨g, 0, none⟩ = some v := by
  unfold World.var? at h
  rw [hg] at h
  simp only [Option.bind_some] at h
  unfold World.cell?
  simp only
  split at h
  · rename_i cs _ _ hh
    rw [hh]
    obtain rfl := Option.some.inj h
    rfl
  · cases h
theorem gSyn : Tryz.prog.globalNamed "strconv.ErrSyntax" = some 2 := by kernel_rfl
theorem gRng : Tryz.prog.globalNamed "strconv.ErrRange" = some 3 := by kernel_rfl

theorem parseP16_yes (t : ByteArray) (m : Nat) (w : World) (hm : m < 2 ^ 64) (ht : hexL m = t.data.toList) :
    Calls Tryz.prog 84 #[.string t, .int .i64 16, .int .i64 64] w fun e w' => e = .returned (.tuple #[.int .u64 m, .nilIface]) ∧ Below w.heap.size w w' := by
  have C := Lib.hid (parse16_yes t m w hm ht)
  clear hm ht
  go_enter Tryz.func84, Tryz.ntmps84
  go_wp2_with fail
  refine C.out.mono ?_
  rintro e w' ⟨rfl, rfl⟩
  go_wp2
  go_ret2
  exact ⟨rfl, Lib.bytesWorld_below w 5 t⟩
theorem parseP16_any (t : ByteArray) (w : World) (ht : t.size ≤ 1073741824) (hL : Lib0 w) :
    Calls Tryz.prog 84 #[.string t, .int .i64 16, .int .i64 64] w (SomeP w) := by
  have C := Lib.hid (parse16_any t w ht)
  have HL := Lib.hid hL
  clear hL
  go_enter Tryz.func84, Tryz.ntmps84
  go_wp2_with fail
  refine C.out.mono ?_
  rintro e w1 ⟨n, x, h0, h1, hx, rfl, hb⟩
  have hL1 := HL.out.below hb
  rcases hx with rfl | rfl | rfl
  · go_wp2
    go_ret2
    exact ⟨n, .nilIface, h0, h1, .inl rfl, rfl, hb⟩
  · obtain ⟨tp, p, hv⟩ := hL1.rng
    have hT := Tryz.strconv_toError_range ⟨#[80, 97, 114, 115, 101, 85, 105, 110, 116]⟩ t 16 64 (.iface tp p) w1 (by omega) (var_cell gRng hv) (.inr ⟨tp, p, rfl⟩)
    have HT := Lib.hid hT
    clear hT hv hL1
    go_wp2_with fail
    refine HT.out.mono ?_
    rintro e w2 ⟨N, rfl, hN, hc, hb2⟩
    go_wp2
    go_ret2
    exact ⟨n, _, h0, h1, .inr ⟨N, rfl⟩, rfl, hb.trans (hb2.mono hb.size)⟩
  · obtain ⟨tp, p, hv⟩ := hL1.syn
    have hT := Tryz.strconv_toError_syntax ⟨#[80, 97, 114, 115, 101, 85, 105, 110, 116]⟩ t 16 64 (.iface tp p) w1 (by omega) (var_cell gSyn hv) (.inr ⟨tp, p, rfl⟩)
    have HT := Lib.hid hT
    clear hT hv hL1
    go_wp2_with fail
    refine HT.out.mono ?_
    rintro e w2 ⟨N, rfl, hN, hc, hb2⟩
    go_wp2
    go_ret2
    exact ⟨n, _, h0, h1, .inr ⟨N, rfl⟩, rfl, hb.trans (hb2.mono hb.size)⟩

/-- front.unsixteen: the number of sixteen digits, and true; of another text some number, and false. -/
def UnS (s : ByteArray) (w : World) (e : Ending) (w' : World) : Prop :=
  ∃ n : Nat, n < 2 ^ 64 ∧ e = .returned (.tuple #[.int .u64 n, .bool (unhexL s.data.toList).isSome]) ∧ (∀ m, unhexL s.data.toList = some m → n = m) ∧ Below w.heap.size w w'
theorem hexB_eq {s : ByteArray} {m : Nat} : hexB m = s ↔ hexL m = s.data.toList := by
  unfold hexB
  constructor
  · intro h; rw [← h]
  · intro h; simp only [h]
theorem unsixteen_any (s : ByteArray) (w : World) (hs : s.size ≤ 1073741824) (hL : Lib0 w) : Calls Tryz.prog 83 #[.string s] w (UnS s w) := by
  have HL := Lib.hid hL
  clear hL
  by_cases hx : ∃ m, unhexL s.data.toList = some m
  · obtain ⟨m, hm⟩ := hx
    obtain ⟨hm1, hm2⟩ := unhexL_iff.1 hm
    have C := Lib.hid (parseP16_yes s m w hm1 hm2)
    have hsz : s.size = 16 := by have := hexL_len m; rw [hm2] at this; exact Array.length_toList.symm.trans this
    have hsi : ((s.size : Int) == 16) = true := by simp [hsz]
    have he := str_same (hexB_eq.2 hm2)
    have hs1 : (s.size : Int) ≤ 16 := by omega
    have hs2 : 16 ≤ (s.size : Int) := by omega
    have HF : Hid (UnS s w (.returned (.tuple #[.int .u64 m, .bool true])) = UnS s w (.returned (.tuple #[.int .u64 m, .bool true]))) := rfl
    have HM := Lib.hid hm
    have HM1 := Lib.hid hm1
    clear hm hm1 hm2 hsz
    go_enter Tryz.func83, Tryz.ntmps83
    go_wp2_with fail
    refine C.out.mono ?_
    rintro e w1 ⟨rfl, hb⟩
    have HS := Lib.hid (sixteen_any m w1 HM1.out (HL.out.below hb))
    go_wp2_with fail
    refine HS.out.mono ?_
    rintro e w2 ⟨rfl, hb2⟩
    go_wp2
    go_ret2
    exact ⟨m, HM1.out, by rw [HM.out]; rfl, (fun m' h => by rw [HM.out] at h; exact Option.some.inj h), hb.trans (hb2.mono hb.size)⟩
  · have hn : unhexL s.data.toList = none := by
      cases h : unhexL s.data.toList with
      | none => rfl
      | some m => exact absurd ⟨m, h⟩ hx
    have C := Lib.hid (parseP16_any s w hs HL.out)
    have HN := Lib.hid hn
    clear hx hn
    go_enter Tryz.func83, Tryz.ntmps83
    go_wp2_with fail
    refine C.out.mono ?_
    rintro e w1 ⟨n, x, h0, h1, hx, rfl, hb⟩
    obtain ⟨n, rfl⟩ : ∃ m : Nat, n = m := ⟨n.toNat, by omega⟩
    have H1 : Hid (n < 2 ^ 64) := by unfold Hid; omega
    clear h1 h0
    rcases hx with rfl | ⟨N, rfl⟩
    · by_cases hsz : s.size = 16
      · have hsi : ((s.size : Int) == 16) = true := by simp [hsz]
        have hs1 : (s.size : Int) ≤ 16 := by omega
        have hs2 : 16 ≤ (s.size : Int) := by omega
        have he : ((hexB n).toList == s.toList) = false := str_other (fun e => by
          have := unhexL_some H1.out (hexB_eq.1 e)
          rw [HN.out] at this
          cases this)
        have HS := Lib.hid (sixteen_any n w1 H1.out (HL.out.below hb))
        clear hsz
        go_wp2_with fail
        refine HS.out.mono ?_
        rintro e w2 ⟨rfl, hb2⟩
        go_wp2
        go_ret2
        exact ⟨n, H1.out, by rw [HN.out]; rfl, (fun m' h => by rw [HN.out] at h; cases h), hb.trans (hb2.mono hb.size)⟩
      · have hsi : ((s.size : Int) == 16) = false := by rw [beq_eq_false_iff_ne]; omega
        have hne : ¬ (s.size : Int) = 16 := by omega
        clear hsz
        go_wp2_with fail
        go_ret2
        exact ⟨n, H1.out, by rw [HN.out]; rfl, (fun m' h => by rw [HN.out] at h; cases h), hb⟩
    · go_wp2_with fail
      go_ret2
      exact ⟨n, H1.out, by rw [HN.out]; rfl, (fun m' h => by rw [HN.out] at h; cases h), hb⟩
end Go.Proofs.YtnlooggibopknaaGreatDoor
