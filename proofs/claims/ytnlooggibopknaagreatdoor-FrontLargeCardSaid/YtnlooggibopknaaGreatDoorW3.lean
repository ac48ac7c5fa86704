/- The walks of Escape, both. -/
import Derived.Test.YtnlooggibopknaaGreatDoorMem
import Derived.Test.YtnlooggibopknaaGreatDoorSp
import Derived.Deep.RegionHeld3
import Derived.Deep.DrawnRows
namespace Go.Proofs.YtnlooggibopknaaGreatDoor
open Go.RowKit

set_option maxHeartbeats 800000 in
set_option maxRecDepth 100000 in
theorem escape_any (s : ByteArray) (w : World) (hs : s.size ≤ 1073741824) :
    Calls Tryz.prog 15 #[.string s] w fun e w' => e = .returned (.string (escB s)) ∧ Below w.heap.size w w' := by
  obtain ⟨i0, hi, hz0, hz1, hz2⟩ := info_parts info5
  go_enter Tryz.func15, Tryz.ntmps15
  go_wp2
  go_loopw [3, 8] (fun v i wr => ∃ k : Nat, k ≤ s.size ∧ i = .int .i64 k ∧ wr.ownsRow w.heap.size 5 1 v (escL (s.data.toList.take k)).length (bcells (escL (s.data.toList.take k))) ∧ Below w.heap.size w wr) (fun _ i _ => s.size - (intOf i).toNat)
  case atStart => exact ⟨0, Nat.zero_le _, rfl, World.ownsRow_nil _ _ _ _, Below.refl _ _⟩
  case round =>
    obtain ⟨k, hk, rfl, hown, hb⟩ := hrel
    have hle := esc_le s k
    by_cases hlt : k < s.size
    · have HS := Lib.hid (esc_snoc s k hlt)
      have hbs := hb.size
      have hc := s[k].toNat_lt
      by_cases hkp : keptN s[k].toNat = true
      · have HK := Lib.hid hkp
        go_wp2_with (first
          | (go_at_call 39; refine (plain_any _ _ (by omega) (by omega)).mono ?_; rintro e w' ⟨rfl, rfl⟩)
          | (at_builtin; refine wpList_append_own _ rfl _ _ 24 rfl w.heap.size 5 i0 (.int .u8 0) 1 1 Tryz.underlying24 hi hz0 hz1 hz2 rfl (by decide) _ _ _ rfl (hown.alloc _) ⟨wr.heap.size, 0, none⟩ 1 1 [.int .u8 (s[k].toNat : Int)] rfl rfl (news_new _ _ _) (bcells_one [s[k]]) (by unfold maxLen; omega) (by omega) (by simp; omega) ?_; intro v1 w1 hown1 hgr1 _))
        go_roundw
        case rel => exact ⟨k + 1, by omega, by go_num, own_eq hown1 (by rw [HS.out, escC_kept _ HK.out]; simp) (by rw [HS.out, escC_kept _ HK.out, bcells_app]; rfl), hb.trans (((Below.refl _ _).alloc hb.size _).grown hgr1 (by simp; omega) (own_lt hown))⟩
        case measure => simp [intOf]; omega
      · have hkp' : keptN s[k].toNat = false := by simpa using hkp
        have HK := Lib.hid hkp
        clear hkp
        go_wp2_with (first
          | (go_at_call 39; refine (plain_any _ _ (by omega) (by omega)).mono ?_; rintro e w' ⟨rfl, rfl⟩))
        obtain ⟨q, hq⟩ : ∃ q : Nat, (s[k].toNat / 16 : Int) = q := ⟨s[k].toNat / 16, by omega⟩
        obtain ⟨r, hr⟩ : ∃ r : Nat, (s[k].toNat % 16 : Int) = r := ⟨s[k].toNat % 16, by omega⟩
        have hrt : (s[k].toNat : Int).tmod 16 = r := by rw [IntWalk.rem_in _ _ (by omega)]; exact hr
        have hq1 : (q : Int) < 16 := by omega
        have hr1 : (r : Int) < 16 := by omega
        have hqw : IntKind.u8.wrap (q : Int) = q := by rw [IntWalk.u8_in _ (by omega)]
        have hrw : IntKind.u8.wrap (r : Int) = r := by rw [IntWalk.u8_in _ (by omega)]
        go_region_held3 (fun _ => True) (trivial)
          ((refine step_append_lies _ (by rfl) _ _ _ (by rfl) w.heap.size 5 i0 (.int .u8 0) 1 1 Tryz.underlying24 hi hz0 hz1 hz2 (by rfl) (by decide) _ _ _ (by rfl) (hown.alloc _) ⟨wr.heap.size, 0, none⟩ 3 3 _ (by rfl) (by rfl) (news_new _ _ _) (by intro u hu; simp at hu; rcases hu with rfl | rfl | rfl <;> rfl) (by omega) (by unfold maxLen; omega) (by omega) (by simp; omega) (wr.heap.size + 1) (by simp) ?_; intro g1 cap1 w1 hown1 hgr1 hg1 hlt1))
        all_goals
          have hq2 : q < 16 := by omega
          have hr2 : r < 16 := by omega
          have HC := Lib.hid (escC_not s[k] q r HK.out hq hr)
          have T1 := Lib.hid (tab_dig ⟨q, hq2⟩)
          have T2 := Lib.hid (tab_dig ⟨r, hr2⟩)
          clear hq hr hrt hqw hrw
          go_wp2
          go_roundw
          case rel =>
            refine ⟨k + 1, by omega, by go_num, own_eq hown1 (by rw [HS.out, HC.out]; simp) ?_, hb.trans ((((Below.refl _ _).alloc hb.size _).drew).grown hgr1 (by simp; omega) (own_lt hown))⟩
            rw [HS.out, HC.out, bcells_app, ← T1.out, ← T2.out]; rfl
          case measure => simp [intOf]; omega
    · have HT := Lib.hid (take_all s k (by omega))
      have hcv := convert_own hown
      go_wp2
      go_ret
      exact ⟨ret_str (by rw [HT.out]; rfl), hb⟩
end Go.Proofs.YtnlooggibopknaaGreatDoor
