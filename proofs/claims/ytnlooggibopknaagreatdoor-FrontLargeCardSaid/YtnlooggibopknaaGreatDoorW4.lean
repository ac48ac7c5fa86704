/- The walks of Unescape, both. -/
import Derived.Test.YtnlooggibopknaaGreatDoorW3
import Derived.Test.YtnlooggibopknaaGreatDoorShelf
import Derived.Deep.QuietTactic
import Derived.BigQuiet
namespace Go.Proofs.YtnlooggibopknaaGreatDoor
open Go.RowKit

noncomputable def unescE (s : ByteArray) : Ending := match unescL s.data.toList with
  | some t => .returned (.tuple #[.string ⟨t.toArray⟩, .bool true])
  | none => .returned (.tuple #[.string ⟨#[]⟩, .bool false])
theorem unescE_none {s : ByteArray} (h : unescL s.data.toList = none) : Ending.returned (.tuple #[.string ⟨#[]⟩, .bool false]) = unescE s := by unfold unescE; rw [h]
theorem unescE_some {s : ByteArray} {t : List UInt8} (h : unescL s.data.toList = some t) : Ending.returned (.tuple #[.string ⟨t.toArray⟩, .bool true]) = unescE s := by unfold unescE; rw [h]
theorem index_val : ∀ n : Fin 256, Lib.indexByte [48, 49, 50, 51, 52, 53, 54, 55, 56, 57, 65, 66, 67, 68, 69, 70] (UInt8.ofNat n.val) = valN n.val 65 := by decide +kernel
theorem index_val' (c : UInt8) : Lib.indexByte [48, 49, 50, 51, 52, 53, 54, 55, 56, 57, 65, 66, 67, 68, 69, 70] c = valN c.toNat 65 := by
  have := index_val ⟨c.toNat, c.toNat_lt⟩
  simpa using this
theorem indexByte_any (c : UInt8) (w : World) : Calls Tryz.prog 42 #[.string ⟨#[48, 49, 50, 51, 52, 53, 54, 55, 56, 57, 65, 66, 67, 68, 69, 70]⟩, .int .u8 c.toNat] w fun e w' => e = .returned (.int .i64 (valN c.toNat 65)) ∧ w = w' := by
  refine (Tryz.strings_IndexByte _ _ w).mono fun e w' ⟨he, hw⟩ => ⟨he.trans (ret_int ?_), hw.symm⟩
  rw [← index_val' c]
  simp
theorem indexByte_v (c : UInt8) (v : Int) (h : valN c.toNat 65 = v) (w : World) : Calls Tryz.prog 42 #[.string ⟨#[48, 49, 50, 51, 52, 53, 54, 55, 56, 57, 65, 66, 67, 68, 69, 70]⟩, .int .u8 c.toNat] w fun e w' => e = .returned (.int .i64 v) ∧ w = w' := by
  subst h; exact indexByte_any c w
theorem toArr (s : ByteArray) : (⟨s.data.toList.toArray⟩ : ByteArray) = s := rfl
theorem esc_eq {out : List UInt8} {s : ByteArray} : escB ⟨out.toArray⟩ = s ↔ escL out = s.data.toList := by
  unfold escB
  constructor
  · intro h; rw [← h]
  · intro h; simp only [h]

set_option maxHeartbeats 1600000 in
set_option maxRecDepth 100000 in
theorem unescape_any (s : ByteArray) (w : World) (hs : s.size ≤ 1073741824) :
    Calls Tryz.prog 17 #[.string s] w fun e w' => e = unescE s ∧ Below w.heap.size w w' := by
  obtain ⟨i0, hi, hz0, hz1, hz2⟩ := info_parts info5
  have hss : s.data.toList.length = s.size := Array.length_toList
  have HSS := Lib.hid hss
  clear hss
  go_enter Tryz.func17, Tryz.ntmps17
  go_wp2
  go_loopw [4, 5] (fun v i wr => ∃ (k : Nat) (out : List UInt8), k ≤ s.size ∧ out.length ≤ k ∧ i = .int .i64 k ∧ wr.ownsRow w.heap.size 5 1 v out.length (bcells out) ∧ Below w.heap.size w wr ∧ Mid s.data.toList k out) (fun _ i _ => s.size - (intOf i).toNat)
  case atStart => exact ⟨0, [], Nat.zero_le _, Nat.le_refl _, rfl, World.ownsRow_nil _ _ _ _, Below.refl _ _, Mid.start _⟩
  case round =>
    obtain ⟨k, out, hk, hol, rfl, hown, hb, hmid⟩ := hrel
    have HM := Lib.hid hmid
    clear hmid
    have hbs := hb.size
    by_cases hlt : k < s.size
    · have HL : Hid (k < s.data.toList.length) := by unfold Hid; rw [HSS.out]; exact hlt
      by_cases hc : s[k].toNat = 37
      · have h37a : (37 : Int) ≤ s[k].toNat := by omega
        have h37b : (s[k].toNat : Int) ≤ 37 := by omega
        have HC := Lib.hid hc
        clear hc
        by_cases h2 : k + 2 < s.size
        · have h2i : (k : Int) + 2 < s.size := by omega
          go_wp2_with fail
          have h21 : k + 1 < s.size := by omega
          obtain ⟨v1, hv1⟩ : ∃ v, valN (s[k + 1]'h21).toNat 65 = v := ⟨_, rfl⟩
          obtain ⟨v2, hv2⟩ : ∃ v, valN (s[k + 2]'h2).toNat 65 = v := ⟨_, rfl⟩
          have HV1 := Lib.hid hv1
          have HV2 := Lib.hid hv2
          clear hv1 hv2
          have H2 : k + 2 < s.data.toList.length := by rw [HSS.out]; exact h2
          have hm := HM.out
          have HB : Hid (v1 < 0 ∨ v2 < 0 → unescL s.data.toList = none) := fun hb => by
            refine unescL_none (Mid.bad hm HL.out (UInt8.toNat_inj.1 HC.out) H2 ?_)
            rw [show valN (s.data.toList[k + 1]'(by omega)).toNat 65 = v1 from HV1.out, show valN (s.data.toList[k + 2]'H2).toNat 65 = v2 from HV2.out]; exact hb
          have HG : Hid (Mid s.data.toList (k + 3) (out ++ [UInt8.ofNat (16 * v1 + v2).toNat])) := by
            have := Mid.step hm HL.out (UInt8.toNat_inj.1 HC.out) H2
            rw [show valN (s.data.toList[k + 1]'(by omega)).toNat 65 = v1 from HV1.out, show valN (s.data.toList[k + 2]'H2).toNat 65 = v2 from HV2.out] at this
            exact this
          clear hm H2
          have hk1 : IntKind.i64.wrap ((k : Int) + 1) = k + 1 := IntWalk.i64_in _ (by omega)
          have hk2 : IntKind.i64.wrap ((k : Int) + 2) = k + 2 := IntWalk.i64_in _ (by omega)
          have hn1 : ((k : Int) + 1).toNat = k + 1 := by omega
          have hn2 : ((k : Int) + 2).toNat = k + 2 := by omega
          have hp1 : (0 : Int) ≤ (k : Int) + 1 := by omega
          have hp2 : (0 : Int) ≤ (k : Int) + 2 := by omega
          have hp3 : (k : Int) + 1 < s.size := by omega
          go_quiet ((first | (go_at_call 42; exact quietL (indexByte_v _ v1 HV1.out _)) | (go_at_call 42; exact quietL (indexByte_v _ v2 HV2.out _))))
          clear hk1 hk2
          by_cases hb1 : v1 < 0
          · go_wp2
            go_ret2
            exact ⟨unescE_none (HB.out (.inl hb1)), below_drewN hb _⟩
          · by_cases hb2 : v2 < 0
            · go_wp2
              go_ret2
              exact ⟨unescE_none (HB.out (.inr hb2)), below_drewN hb _⟩
            · have hv16 : v1 < 16 := by have := valN_lt (s[k + 1]'h21).toNat 65 (by rw [HV1.out]; omega); rw [HV1.out] at this; exact this
              have hv26 : v2 < 16 := by have := valN_lt (s[k + 2]'h2).toNat 65 (by rw [HV2.out]; omega); rw [HV2.out] at this; exact this
              have h10 : 0 ≤ v1 := by omega
              have h20 : 0 ≤ v2 := by omega
              clear hb1 hb2
              go_wp2_with (first
                | (at_builtin; refine wpList_append_own _ rfl _ _ 24 rfl w.heap.size 5 i0 (.int .u8 0) 1 1 Tryz.underlying24 hi hz0 hz1 hz2 rfl (by decide) _ _ _ rfl (hown.alloc _) ⟨wr.heap.size, 0, none⟩ 1 1 [.int .u8 (16 * v1 + v2)] rfl rfl (news_new _ _ _) (by intro u hu; simp at hu; subst hu; rfl) (by unfold maxLen; omega) (by omega) (by simp; omega) ?_; intro v3 w1 hown1 hgr1 _))
              go_roundw
              case rel =>
                exact ⟨k + 3, out ++ [UInt8.ofNat (16 * v1 + v2).toNat], by omega, by simp; omega, by go_num, own_eq hown1 (by simp) (by rw [bcells_app, ← bnum_one (by omega) (by omega)]), hb.trans ((below_drewN ((Below.refl _ _).alloc hb.size _) _).grown hgr1 (by simp; omega) (own_lt hown)), HG.out⟩
              case measure => simp [intOf]; omega
        · have h2i : ¬ (k : Int) + 2 < s.size := by omega
          have HN := Lib.hid (Mid.false (Mid.short HM.out HL.out (UInt8.toNat_inj.1 HC.out) (by rw [HSS.out]; omega)) (k + 1) (out ++ [s[k]]))
          go_wp2_with (first
            | (at_builtin; refine wpList_append_own _ rfl _ _ 24 rfl w.heap.size 5 i0 (.int .u8 0) 1 1 Tryz.underlying24 hi hz0 hz1 hz2 rfl (by decide) _ _ _ rfl (hown.alloc _) ⟨wr.heap.size, 0, none⟩ 1 1 _ rfl rfl (news_new _ _ _) (by intro u hu; simp at hu; subst hu; rfl) (by unfold maxLen; omega) (by omega) (by simp; omega) ?_; intro v1 w1 hown1 hgr1 _))
          go_roundw
          case rel =>
            exact ⟨k + 1, out ++ [s[k]], by omega, by simp; omega, by go_num, own_eq hown1 (by simp) (by rw [bcells_app]; congr 1; simp [bcells, HC.out]), hb.trans (((Below.refl _ _).alloc hb.size _).grown hgr1 (by simp; omega) (own_lt hown)), HN.out⟩
          case measure => simp [intOf]; omega
      · have hcd : ((s[k].toNat : Int) == 37) = false := by simpa using fun h => hc (by omega)
        have HC := Lib.hid hc
        have hne : ¬ (s[k].toNat : Int) = 37 := by omega
        clear hc
        go_wp2_with (first
          | (at_builtin; refine wpList_append_own _ rfl _ _ 24 rfl w.heap.size 5 i0 (.int .u8 0) 1 1 Tryz.underlying24 hi hz0 hz1 hz2 rfl (by decide) _ _ _ rfl (hown.alloc _) ⟨wr.heap.size, 0, none⟩ 1 1 [.int .u8 (s[k].toNat : Int)] rfl rfl (news_new _ _ _) (bcells_one [s[k]]) (by unfold maxLen; omega) (by omega) (by simp; omega) ?_; intro v1 w1 hown1 hgr1 _))
        go_roundw
        case rel =>
          refine ⟨k + 1, out ++ [s[k]], by omega, by simp; omega, by go_num, own_eq hown1 (by simp) (by rw [bcells_app]; rfl), hb.trans (((Below.refl _ _).alloc hb.size _).grown hgr1 (by simp; omega) (own_lt hown)), ?_⟩
          exact HM.out.plain HL.out (fun e => HC.out (by show (s.data.toList[k]'HL.out).toNat = 37; rw [e]; rfl))
        case measure => simp [intOf]; omega
    · have hcv := convert_own hown
      have HD := Lib.hid (HM.out.done (by rw [HSS.out]; omega))
      by_cases he : escL out = s.data.toList
      · have he1 := str_same (esc_eq.2 he)
        have HE : Hid (unescL s.data.toList = some out) := by have := HD.out; rw [if_pos he] at this; exact this
        clear he
        have hsz : (⟨out.toArray⟩ : ByteArray).size ≤ 1073741824 := by simp only [ByteArray.size, List.size_toArray]; omega
        go_wp2_with (first
          | (go_at_call 15; refine (escape_any _ _ hsz).mono ?_; rintro e w1 ⟨rfl, hb1⟩; have hcv1 := convert_own (own_below hown hb1)))
        go_ret2
        exact ⟨unescE_some HE.out, hb.trans (hb1.mono hbs)⟩
      · have he1 := str_other (fun e => he (esc_eq.1 e))
        have HE : Hid (unescL s.data.toList = none) := by have := HD.out; rw [if_neg he] at this; exact this
        clear he
        have hsz : (⟨out.toArray⟩ : ByteArray).size ≤ 1073741824 := by simp only [ByteArray.size, List.size_toArray]; omega
        go_wp2_with (first
          | (go_at_call 15; refine (escape_any _ _ hsz).mono ?_; rintro e w1 ⟨rfl, hb1⟩; have hcv1 := convert_own (own_below hown hb1)))
        go_ret2
        exact ⟨unescE_none HE.out, hb.trans (hb1.mono hbs)⟩
end Go.Proofs.YtnlooggibopknaaGreatDoor
