/- The walks of number, cut, text. -/
import Derived.Test.YtnlooggibopknaaGreatDoorNum
import Derived.Test.YtnlooggibopknaaGreatDoorW16
import Derived.Test.YtnlooggibopknaaGreatDoorW9
import Derived.Test.YtnlooggibopknaaGreatDoorW4
import Derived.Handy
namespace Go.Proofs.YtnlooggibopknaaGreatDoor
open Go.RowKit Go.Sort

/-- front.number: the number whose decimal text this is, and true; else some number, and false. -/
def NumR (s : ByteArray) (w : World) (e : Ending) (w' : World) : Prop :=
  ∃ n : Int, e = .returned (.tuple #[.int .i64 n, .bool (numF s.data.toList).isSome]) ∧ (-9223372036854775808 ≤ n ∧ n ≤ 9223372036854775807) ∧ (∀ m, numF s.data.toList = some m → n = m) ∧ Below w.heap.size w w'
theorem dec_size (m : Nat) (h : m ≤ 9223372036854775807) : (Lib.decDigits m).length ≤ 19 := decDigits_len 18 m (by omega)

theorem number_any (s : ByteArray) (w : World) (hs : s.size ≤ 1073741824) (hL : Lib0 w) : Calls Tryz.prog 108 #[.string s] w (NumR s w) := by
  have HL := Lib.hid hL
  have hss : s.size ≤ 281474976710656 := by omega
  have hsm : s.size ≤ 9223372036854775806 := by omega
  cases hx : numF s.data.toList with
  | some m =>
    obtain ⟨h1, h2⟩ := numF_iff.1 hx
    have hA := Lib.hid (Tryz.strconv_Atoi_ok s hsm (m : Int) (by rw [← h2]; exact atoi_dec m h1) w)
    have he : ((itoaB (m : Int)).toList == s.toList) = true := str_same (by rw [itoa_dec]; unfold decB; rw [h2])
    have hm0 : (0 : Int) ≤ (m : Int) := by omega
    have HX : Hid ((numF s.data.toList).isSome = true) := by unfold Hid; rw [hx]; rfl
    have HF : Hid (∀ m', numF s.data.toList = some m' → (m : Int) = m') := fun m' h => by rw [hx] at h; cases h; rfl
    have HI : Hid (∀ W, Below w.heap.size w W → Calls Tryz.prog 36 #[.int .i64 (m : Int)] W fun e w' => e = .returned (.string (itoaB (m : Int))) ∧ Below W.heap.size W w') := fun W hb => itoa_any _ W (by omega) (by omega) (HL.out.below hb)
    have H1 := Lib.hid h1
    clear hx h2 hL h1
    go_enter Tryz.func108, Tryz.ntmps108
    go_wp2_with fail
    refine hA.out.mono ?_
    rintro e w1 ⟨rfl, hw1⟩
    have hb1 : Below w.heap.size w w1 := by
      rcases hw1 with rfl | ⟨t, rfl⟩
      · exact Below.refl _ _
      · exact Lib.bytesWorld_below w 5 t
    clear hw1
    go_wp2_with fail
    refine (HI.out _ hb1).mono ?_
    rintro e w2 ⟨rfl, hb2⟩
    go_wp2
    go_ret2
    exact ⟨(m : Int), by rw [HX.out]; rfl, (by have := H1.out; constructor <;> omega), HF.out, hb1.trans (hb2.mono hb1.size)⟩
  | none =>
    have HX : Hid ((numF s.data.toList).isSome = false) := by unfold Hid; rw [hx]; rfl
    have HF : Hid (∀ (n : Int) (m' : Nat), numF s.data.toList = some m' → n = m') := fun n m' h => by rw [hx] at h; cases h
    have HN : Hid (∀ v : Int, 0 ≤ v → v ≤ 9223372036854775807 → ¬ itoaB v = s) := fun v h0 h1 e => by
      obtain ⟨m, rfl⟩ : ∃ m : Nat, v = m := ⟨v.toNat, by omega⟩
      rw [itoa_dec] at e
      exact numF_none hx m (by omega) (by rw [← e]; rfl)
    cases ha : Lib.atoiAll s.data.toList with
    | ok v =>
      have hA := Lib.hid (Tryz.strconv_Atoi_ok s hsm v ha w)
      obtain ⟨hv0, hv1⟩ := Lib.atoiAll_bounds ha
      clear hx ha hL
      by_cases h0 : 0 ≤ v
      · have he : ((itoaB v).toList == s.toList) = false := str_other (HN.out v h0 hv1)
        have HI : Hid (∀ W, Below w.heap.size w W → Calls Tryz.prog 36 #[.int .i64 v] W fun e w' => e = .returned (.string (itoaB v)) ∧ Below W.heap.size W w') := fun W hb => itoa_any _ W (by omega) (by omega) (HL.out.below hb)
        go_enter Tryz.func108, Tryz.ntmps108
        go_wp2_with fail
        refine hA.out.mono ?_
        rintro e w1 ⟨rfl, hw1⟩
        have hb1 : Below w.heap.size w w1 := by
          rcases hw1 with rfl | ⟨t, rfl⟩
          · exact Below.refl _ _
          · exact Lib.bytesWorld_below w 5 t
        clear hw1
        go_wp2_with fail
        refine (HI.out _ hb1).mono ?_
        rintro e w2 ⟨rfl, hb2⟩
        go_wp2
        go_ret2
        exact ⟨v, by rw [HX.out]; rfl, ⟨hv0, hv1⟩, HF.out _, hb1.trans (hb2.mono hb1.size)⟩
      · go_enter Tryz.func108, Tryz.ntmps108
        go_wp2_with fail
        refine hA.out.mono ?_
        rintro e w1 ⟨rfl, hw1⟩
        have hb1 : Below w.heap.size w w1 := by
          rcases hw1 with rfl | ⟨t, rfl⟩
          · exact Below.refl _ _
          · exact Lib.bytesWorld_below w 5 t
        clear hw1
        go_wp2
        go_ret2
        exact ⟨v, by rw [HX.out]; rfl, ⟨hv0, hv1⟩, HF.out _, hb1⟩
    | range =>
      obtain ⟨tp, p, hv⟩ := hL.rng
      have hA := Lib.hid (Tryz.strconv_Atoi_range_var s hss ha tp p w hv)
      have HB : Hid (-9223372036854775808 ≤ Lib.atoiSat s.data.toList ∧ Lib.atoiSat s.data.toList ≤ 9223372036854775807) := by unfold Hid Lib.atoiSat; split <;> omega
      clear hx ha hv hL
      go_enter Tryz.func108, Tryz.ntmps108
      go_wp2_with fail
      refine hA.out.mono ?_
      rintro e w1 ⟨N, rfl, _, _, hb1⟩
      go_wp2
      go_ret2
      exact ⟨_, by rw [HX.out]; rfl, HB.out, HF.out _, hb1⟩
    | _ =>
      obtain ⟨tp, p, hv⟩ := hL.syn
      have hA := Lib.hid (Tryz.strconv_Atoi_syntax_var s hss ha tp p w hv)
      clear hx ha hv hL
      go_enter Tryz.func108, Tryz.ntmps108
      go_wp2_with fail
      refine hA.out.mono ?_
      rintro e w1 ⟨N, rfl, _, _, hb1⟩
      go_wp2
      go_ret2
      exact ⟨0, by rw [HX.out]; rfl, by constructor <;> decide, HF.out _, hb1⟩

/-- How the parser stops. -/
def badE : Ending := .panicked [{ v := .iface 3 (.int .i64 400), recovered := false }]

set_option maxHeartbeats 400000 in
theorem cut_yes (s sep a b : ByteArray) (w : World) (hs : s.size ≤ 1073741824) (hL : Lib0 w) (h : Lib.cut s.data.toList sep.data.toList = (a.data.toList, b.data.toList, true)) :
    Calls Tryz.prog 104 #[.string s, .string sep] w fun e w' => e = .returned (.tuple #[.string a, .string b]) ∧ Below w.heap.size w w' := by
  obtain ⟨m, hm⟩ := hL.maxlen
  have hC := Tryz.strings_Cut s sep m w (by omega) hm
  rw [h] at hC
  have HC := Lib.hid hC
  clear hC h hm hL
  go_enter Tryz.func104, Tryz.ntmps104
  go_wp2_with fail
  refine HC.out.mono ?_
  rintro e w1 ⟨rfl, n, rfl⟩
  go_wp2_with (go_at_call 47; refine (must_yes _).mono ?_; rintro e w' ⟨rfl, rfl⟩)
  go_ret2
  exact ⟨rfl, below_drewN (Below.refl _ _) n⟩
set_option maxHeartbeats 400000 in
theorem cut_no (s sep : ByteArray) (w : World) (hs : s.size ≤ 1073741824) (hL : Lib0 w) (h : (Lib.cut s.data.toList sep.data.toList).2.2 = false) :
    Calls Tryz.prog 104 #[.string s, .string sep] w fun e w' => e = badE ∧ Below w.heap.size w w' := by
  obtain ⟨m, hm⟩ := hL.maxlen
  have hC := Tryz.strings_Cut s sep m w (by omega) hm
  rw [h] at hC
  have HC := Lib.hid hC
  clear hC h hm hL
  go_enter Tryz.func104, Tryz.ntmps104
  go_wp2_with fail
  refine HC.out.mono ?_
  rintro e w1 ⟨rfl, n, rfl⟩
  go_wp2_with (go_at_call 47; refine (must_no _).mono ?_; rintro e w' ⟨rfl, rfl⟩)
  exact ⟨rfl, rfl, below_drewN (Below.refl _ _) n⟩
end Go.Proofs.YtnlooggibopknaaGreatDoor
