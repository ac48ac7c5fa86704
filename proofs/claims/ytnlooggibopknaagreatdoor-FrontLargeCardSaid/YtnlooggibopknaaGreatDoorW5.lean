/- The walks of the reference's Escape and Unescape. -/
import Derived.Test.YtnlooggibopknaaGreatDoorW4
namespace Go.Proofs.YtnlooggibopknaaGreatDoor
open Go.RowKit

set_option maxHeartbeats 800000 in
set_option maxRecDepth 100000 in
theorem escapeR_any (s : ByteArray) (w : World) (hs : s.size ≤ 1073741824) :
    Calls Tryz.prog 16 #[.string s] w fun e w' => e = .returned (.string (escB s)) ∧ Below w.heap.size w w' := by
  obtain ⟨i0, hi, hz0, hz1, hz2⟩ := info_parts info5
  go_enter Tryz.func16, Tryz.ntmps16
  go_wp2
  go_loopw [3, 4] (fun v i wr => ∃ k : Nat, k ≤ s.size ∧ i = .int .i64 k ∧ wr.ownsRow w.heap.size 5 1 v (escL (s.data.toList.take k)).length (bcells (escL (s.data.toList.take k))) ∧ Below w.heap.size w wr) (fun _ i _ => s.size - (intOf i).toNat)
  case atStart => exact ⟨0, Nat.zero_le _, rfl, World.ownsRow_nil _ _ _ _, Below.refl _ _⟩
  case round =>
    obtain ⟨k, hk, rfl, hown, hb⟩ := hrel
    have hle := esc_le s k
    by_cases hlt : k < s.size
    · have HS := Lib.hid (esc_snoc s k hlt)
      have hbs := hb.size
      have hc := s[k].toNat_lt
      by_cases hkp : keptN s[k].toNat = true
      · have HK := Lib.hid hkp
        go_wp2_with (first
          | (go_at_call 40; refine (kept_any _ _ (by omega) (by omega)).mono ?_; rintro e w' ⟨rfl, rfl⟩)
          | (at_builtin; refine wpList_append_own _ rfl _ _ 24 rfl w.heap.size 5 i0 (.int .u8 0) 1 1 Tryz.underlying24 hi hz0 hz1 hz2 rfl (by decide) _ _ _ rfl (hown.alloc _) ⟨wr.heap.size, 0, none⟩ 1 1 [.int .u8 (s[k].toNat : Int)] rfl rfl (news_new _ _ _) (bcells_one [s[k]]) (by unfold maxLen; omega) (by omega) (by simp; omega) ?_; intro v1 w1 hown1 hgr1 _))
        go_roundw
        case rel => exact ⟨k + 1, by omega, by go_num, own_eq hown1 (by rw [HS.out, escC_kept _ HK.out]; simp) (by rw [HS.out, escC_kept _ HK.out, bcells_app]; rfl), hb.trans (((Below.refl _ _).alloc hb.size _).grown hgr1 (by simp; omega) (own_lt hown))⟩
        case measure => simp [intOf]; omega
      · have hkp' : keptN s[k].toNat = false := by simpa using hkp
        have HK := Lib.hid hkp
        clear hkp
        go_wp2_with (first
          | (go_at_call 40; refine (kept_any _ _ (by omega) (by omega)).mono ?_; rintro e w' ⟨rfl, rfl⟩))
        obtain ⟨q, hq⟩ : ∃ q : Nat, (s[k].toNat / 16 : Int) = q := ⟨s[k].toNat / 16, by omega⟩
        obtain ⟨r, hr⟩ : ∃ r : Nat, (s[k].toNat % 16 : Int) = r := ⟨s[k].toNat % 16, by omega⟩
        have hrb : bits BinOp.and IntKind.u8 (s[k].toNat : Int) 15 = r := (band15 s[k]).trans hr
        have hq0 : 0 ≤ (q : Int) := by omega
        have hq1 : (q : Int) < 16 := by omega
        have hr0 : 0 ≤ (r : Int) := by omega
        have hr1 : (r : Int) < 16 := by omega
        go_region_held3 (fun _ => True) (trivial)
          (first | (go_at_call 41; refine (digit_any _ _ _ ?_ ?_ ?_ ?_).mono ?_; assumption; assumption; decide; decide; rintro e w' ⟨rfl, rfl⟩) | (refine step_append_lies _ rfl _ _ _ rfl w.heap.size 5 i0 (.int .u8 0) 1 1 Tryz.underlying24 hi hz0 hz1 hz2 rfl (by decide) _ _ _ rfl (hown.alloc _) ⟨wr.heap.size, 0, none⟩ 3 3 _ rfl rfl (news_new _ _ _) (by intro u hu; simp at hu; rcases hu with rfl | rfl | rfl <;> rfl) (by omega) (by unfold maxLen; omega) (by omega) (by simp; omega) (wr.heap.size + 1) (by simp) ?_; intro g1 cap1 w1 hown1 hgr1 hg1 hlt1))
        all_goals
          have HC := Lib.hid (escC_not s[k] q r HK.out hq hr)
          have h25 : (digN q 65).toNat < 256 := by unfold digN; split <;> omega
          have h26 : (digN r 65).toNat < 256 := by unfold digN; split <;> omega
          have h27 : 0 ≤ digN q 65 := by unfold digN; split <;> omega
          have h28 : 0 ≤ digN r 65 := by unfold digN; split <;> omega
          have T1 := Lib.hid (bnum_one h27 (by omega))
          have T2 := Lib.hid (bnum_one h28 (by omega))
          clear hq hr hrb
          go_wp2
          go_roundw
          case rel =>
            refine ⟨k + 1, by omega, by go_num, own_eq hown1 (by rw [HS.out, HC.out]; simp) ?_, hb.trans ((((Below.refl _ _).alloc hb.size _).drew).grown hgr1 (by simp; omega) (own_lt hown))⟩
            rw [HS.out, HC.out, bcells_app]
            congr 1
            have t1 := T1.out
            have t2 := T2.out
            simp only [bcells, List.map_cons, List.map_nil, List.cons.injEq, and_true] at t1 t2 ⊢
            exact ⟨rfl, t1, t2⟩
          case measure => simp [intOf]; omega
    · have HT := Lib.hid (take_all s k (by omega))
      have hcv := convert_own hown
      go_wp2
      go_ret
      exact ⟨ret_str (by rw [HT.out]; rfl), hb⟩

theorem value_b (c : UInt8) (w : World) : Calls Tryz.prog 43 #[.int .u8 c.toNat, .int .u8 65] w fun e w' => e = .returned (.int .i64 (valN c.toNat 65)) ∧ w = w' :=
  value_any c.toNat 65 w (by omega) (by have := c.toNat_lt; omega) (by decide) (by decide)

set_option maxHeartbeats 800000 in
set_option maxRecDepth 100000 in
theorem unescapeR_any (s : ByteArray) (w : World) (hs : s.size ≤ 1073741824) :
    Calls Tryz.prog 18 #[.string s] w fun e w' => e = unescE s ∧ Below w.heap.size w w' := by
  obtain ⟨i0, hi, hz0, hz1, hz2⟩ := info_parts info5
  have hss : s.data.toList.length = s.size := Array.length_toList
  have HSS := Lib.hid hss
  clear hss
  go_enter Tryz.func18, Tryz.ntmps18
  go_wp2
  go_loopw [4, 5] (fun v i wr => ∃ (k : Nat) (out : List UInt8), k ≤ s.size ∧ out.length ≤ k ∧ i = .int .i64 k ∧ wr.ownsRow w.heap.size 5 1 v out.length (bcells out) ∧ Below w.heap.size w wr ∧ Mid s.data.toList k out) (fun _ i _ => s.size - (intOf i).toNat)
  case atStart => exact ⟨0, [], Nat.zero_le _, Nat.le_refl _, rfl, World.ownsRow_nil _ _ _ _, Below.refl _ _, Mid.start _⟩
  case round =>
    obtain ⟨k, out, hk, hol, rfl, hown, hb, hmid⟩ := hrel
    have HM := Lib.hid hmid
    clear hmid
    have hbs := hb.size
    by_cases hlt : k < s.size
    · have HL : Hid (k < s.data.toList.length) := by unfold Hid; rw [HSS.out]; exact hlt
      by_cases hc : s[k].toNat = 37
      · have h37a : (37 : Int) ≤ s[k].toNat := by omega
        have h37b : (s[k].toNat : Int) ≤ 37 := by omega
        have hne : ((s[k].toNat : Int) != 37) = false := by rw [bne_eq_false_iff_eq]; omega
        have HC := Lib.hid hc
        clear hc
        by_cases h2 : k + 2 < s.size
        · have h2i : ¬ (s.size : Int) ≤ (k : Int) + 2 := by omega
          have h21 : k + 1 < s.size := by omega
          obtain ⟨v1, hv1⟩ : ∃ v, valN (s[k + 1]'h21).toNat 65 = v := ⟨_, rfl⟩
          obtain ⟨v2, hv2⟩ : ∃ v, valN (s[k + 2]'h2).toNat 65 = v := ⟨_, rfl⟩
          have HV1 := Lib.hid hv1
          have HV2 := Lib.hid hv2
          clear hv1 hv2
          have H2 : k + 2 < s.data.toList.length := by rw [HSS.out]; exact h2
          have hm := HM.out
          have HB : Hid (v1 < 0 ∨ v2 < 0 → unescL s.data.toList = none) := fun hb => by
            refine unescL_none (Mid.bad hm HL.out (UInt8.toNat_inj.1 HC.out) H2 ?_)
            rw [show valN (s.data.toList[k + 1]'(by omega)).toNat 65 = v1 from HV1.out, show valN (s.data.toList[k + 2]'H2).toNat 65 = v2 from HV2.out]; exact hb
          have HG : Hid (Mid s.data.toList (k + 3) (out ++ [UInt8.ofNat (16 * v1 + v2).toNat])) := by
            have := Mid.step hm HL.out (UInt8.toNat_inj.1 HC.out) H2
            rw [show valN (s.data.toList[k + 1]'(by omega)).toNat 65 = v1 from HV1.out, show valN (s.data.toList[k + 2]'H2).toNat 65 = v2 from HV2.out] at this
            exact this
          have B1 := (s[k + 1]'h21).toNat_lt
          have B2 := (s[k + 2]'h2).toNat_lt
          have C1 : ∀ W, Calls Tryz.prog 43 #[.int .u8 (s[k + 1]'h21).toNat, .int .u8 65] W fun e w' => e = .returned (.int .i64 v1) ∧ W = w' := fun W => by
            have := value_any (s[k + 1]'h21).toNat 65 W (by omega) (by omega) (by decide) (by decide)
            rw [HV1.out] at this; exact this
          have C2 : ∀ W, Calls Tryz.prog 43 #[.int .u8 (s[k + 2]'h2).toNat, .int .u8 65] W fun e w' => e = .returned (.int .i64 v2) ∧ W = w' := fun W => by
            have := value_any (s[k + 2]'h2).toNat 65 W (by omega) (by omega) (by decide) (by decide)
            rw [HV2.out] at this; exact this
          have HC1 := Lib.hid C1
          have HC2 := Lib.hid C2
          clear hm H2 C1 C2
          by_cases hb1 : v1 < 0
          · go_wp2_with fail
            refine (HC1.out _).mono ?_
            rintro e w' ⟨rfl, rfl⟩
            go_wp2
            go_ret2
            exact ⟨unescE_none (HB.out (.inl hb1)), hb⟩
          · go_wp2_with fail
            refine (HC1.out _).mono ?_
            rintro e w' ⟨rfl, rfl⟩
            go_wp2_with fail
            refine (HC2.out _).mono ?_
            rintro e w' ⟨rfl, rfl⟩
            by_cases hb2 : v2 < 0
            · go_wp2
              go_ret2
              exact ⟨unescE_none (HB.out (.inr hb2)), hb⟩
            · have hv16 : v1 < 16 := by have := valN_lt (s[k + 1]'h21).toNat 65 (by rw [HV1.out]; omega); rw [HV1.out] at this; exact this
              have hv26 : v2 < 16 := by have := valN_lt (s[k + 2]'h2).toNat 65 (by rw [HV2.out]; omega); rw [HV2.out] at this; exact this
              have h10 : 0 ≤ v1 := by omega
              have h20 : 0 ≤ v2 := by omega
              go_wp2_with fail
              have hz9 : 0 ≤ 16 * v1 + v2 := by omega
              have hz8 : 16 * v1 + v2 ≤ 255 := by omega
              have HZ := Lib.hid (bnum_one hz9 hz8)
              have hp1 : (0 : Int) ≤ (k : Int) + 1 := by omega
              have hp2 : (0 : Int) ≤ (k : Int) + 2 := by omega
              have hp3 : (k : Int) + 1 < s.size := by omega
              have hp4 : (k : Int) + 2 < s.size := by omega
              have hn1 : ((k : Int) + 1).toNat = k + 1 := by omega
              have hn2 : ((k : Int) + 2).toNat = k + 2 := by omega
              have hB1 : w.heap.size ≤ wr.heap.size + 1 := by omega
              have hB2 : out.length + 1 ≤ maxLen := by unfold maxLen; omega
              have hB3 : (out.length + 1) * 1 ≤ 140737488355328 := by omega
              have hk1 : IntKind.i64.wrap ((k : Int) + 1) = k + 1 := IntWalk.i64_in _ (by omega)
              have hk2 : IntKind.i64.wrap ((k : Int) + 2) = k + 2 := IntWalk.i64_in _ (by omega)
              have hw1 : IntKind.i64.wrap (16 * v1) = 16 * v1 := IntWalk.i64_in _ (by omega)
              have hw2 : IntKind.i64.wrap (16 * v1 + v2) = 16 * v1 + v2 := IntWalk.i64_in _ (by omega)
              have hw3 : IntKind.u8.wrap (16 * v1 + v2) = 16 * v1 + v2 := IntWalk.u8_in _ (by omega)
              have hv1 := HV1.out
              have hv2 := HV2.out
              go_region_held3 (fun _ => True) (trivial)
                (first | (go_at_call 43; refine (value_b _ _).mono ?_; rintro e w' ⟨rfl, rfl⟩) | (refine step_append_lies _ rfl _ _ _ rfl w.heap.size 5 i0 (.int .u8 0) 1 1 Tryz.underlying24 hi hz0 hz1 hz2 rfl (by decide) _ _ _ rfl (hown.alloc _) ⟨wr.heap.size, 0, none⟩ 1 1 _ rfl rfl (news_new _ _ _) (by intro u hu; simp at hu; subst hu; rfl) (by decide) hB2 hB3 (by simpa using hB1) (wr.heap.size + 1) (by simp) ?_; intro g1 cap1 w1 hown1 hgr1 hg1 hlt1))
              all_goals
                clear hk1 hk2 hw1 hw2 hw3 hv1 hv2
                go_wp2
                go_roundw
                case rel =>
                  exact ⟨k + 3, out ++ [UInt8.ofNat (16 * v1 + v2).toNat], by omega, by simp; omega, by go_num, own_eq hown1 (by simp) (by rw [bcells_app, ← HZ.out]), hb.trans ((((Below.refl _ _).alloc hb.size _).drew).grown hgr1 (by simp; omega) (own_lt hown)), HG.out⟩
                case measure => simp [intOf]; omega
        · have h2i : (s.size : Int) ≤ (k : Int) + 2 := by omega
          have HN := Lib.hid (unescL_none (Mid.short HM.out HL.out (UInt8.toNat_inj.1 HC.out) (by rw [HSS.out]; omega)))
          go_wp2
          go_ret2
          exact ⟨unescE_none HN.out, hb⟩
      · have hne : ¬ (s[k].toNat : Int) = 37 := by omega
        have hcd : ((s[k].toNat : Int) != 37) = true := by rw [bne_iff_ne]; exact hne
        have HC := Lib.hid hc
        clear hc
        go_wp2_with (first
          | (at_builtin; refine wpList_append_own _ rfl _ _ 24 rfl w.heap.size 5 i0 (.int .u8 0) 1 1 Tryz.underlying24 hi hz0 hz1 hz2 rfl (by decide) _ _ _ rfl (hown.alloc _) ⟨wr.heap.size, 0, none⟩ 1 1 [.int .u8 (s[k].toNat : Int)] rfl rfl (news_new _ _ _) (bcells_one [s[k]]) (by unfold maxLen; omega) (by omega) (by simp; omega) ?_; intro v1 w1 hown1 hgr1 _))
        go_roundw
        case rel =>
          refine ⟨k + 1, out ++ [s[k]], by omega, by simp; omega, by go_num, own_eq hown1 (by simp) (by rw [bcells_app]; rfl), hb.trans (((Below.refl _ _).alloc hb.size _).grown hgr1 (by simp; omega) (own_lt hown)), ?_⟩
          exact HM.out.plain HL.out (fun e => HC.out (by show (s.data.toList[k]'HL.out).toNat = 37; rw [e]; rfl))
        case measure => simp [intOf]; omega
    · have hcv := convert_own hown
      have HD := Lib.hid (HM.out.done (by rw [HSS.out]; omega))
      by_cases he : escL out = s.data.toList
      · have he1 := str_same (esc_eq.2 he)
        have HE : Hid (unescL s.data.toList = some out) := by have := HD.out; rw [if_pos he] at this; exact this
        clear he
        have hsz : (⟨out.toArray⟩ : ByteArray).size ≤ 1073741824 := by simp only [ByteArray.size, List.size_toArray]; omega
        go_wp2_with (first
          | (go_at_call 16; refine (escapeR_any _ _ hsz).mono ?_; rintro e w1 ⟨rfl, hb1⟩))
        go_ret2
        exact ⟨unescE_some HE.out, hb.trans (hb1.mono hbs)⟩
      · have he1 := str_other (fun e => he (esc_eq.1 e))
        have HE : Hid (unescL s.data.toList = none) := by have := HD.out; rw [if_neg he] at this; exact this
        clear he
        have hsz : (⟨out.toArray⟩ : ByteArray).size ≤ 1073741824 := by simp only [ByteArray.size, List.size_toArray]; omega
        go_wp2_with (first
          | (go_at_call 16; refine (escapeR_any _ _ hsz).mono ?_; rintro e w1 ⟨rfl, hb1⟩))
        go_ret2
        exact ⟨unescE_none HE.out, hb.trans (hb1.mono hbs)⟩
end Go.Proofs.YtnlooggibopknaaGreatDoor
