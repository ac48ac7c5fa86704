/- The walk of front's target, kind by kind (no list of parts here). -/
import Derived.Test.YtnlooggibopknaaGreatDoorTg
import Derived.Test.YtnlooggibopknaaGreatDoorShelf
import Derived.Test.YtnlooggibopknaaGreatDoorW3
import Derived.Test.YtnlooggibopknaaGreatDoorW6
namespace Go.Proofs.YtnlooggibopknaaGreatDoor
open Go.RowKit Go.Sort

theorem grow_drewN (w : World) (k : Nat) (os : Array Obj) : grow (w.drewN k) os = grow (redrawn w (w.drawn + k)) os := rfl
theorem itoa_any (n : Int) (w : World) (h0 : -9223372036854775808 ≤ n) (h1 : n ≤ 9223372036854775807) (hL : Lib0 w) :
    Calls Tryz.prog 36 #[.int .i64 n] w fun e w' => e = .returned (.string (itoaB n)) ∧ Below w.heap.size w w' :=
  (Tryz.strconv_Itoa n h0 h1 w hL.pow).mono fun _ _ ⟨he, k, os, hw⟩ => ⟨he, by rw [hw, grow_drewN]; exact below_regrown _ _ _⟩

/-- The contracts of the front's small writers, in whatever world of the class. -/
theorem escape_re {W : World} (s : ByteArray) (hs : s.size ≤ 1073741824) (d : Nat) (os : Array Obj) : Calls Tryz.prog 15 #[.string s] (grow (redrawn W d) os) fun e w'' => e = .returned (.string (escB s)) ∧ ∃ p : Regrown, w'' = grow (redrawn W p.d) p.os := Calls.regrown_of (escape_any s _ hs)
theorem itoa_re {W : World} (hL : Lib0 W) (n : Int) (h0 : -9223372036854775808 ≤ n) (h1 : n ≤ 9223372036854775807) (d : Nat) (os : Array Obj) : Calls Tryz.prog 36 #[.int .i64 n] (grow (redrawn W d) os) fun e w'' => e = .returned (.string (itoaB n)) ∧ ∃ p : Regrown, w'' = grow (redrawn W p.d) p.os := Calls.regrown_of (itoa_any n _ h0 h1 (hL.below (below_regrown _ _ _)))
theorem sixteen_re {W : World} (hL : Lib0 W) (u : Nat) (hu : u < 2 ^ 64) (d : Nat) (os : Array Obj) : Calls Tryz.prog 35 #[.int .u64 u] (grow (redrawn W d) os) fun e w'' => e = .returned (.string (hexB u)) ∧ ∃ p : Regrown, w'' = grow (redrawn W p.d) p.os := Calls.regrown_of (sixteen_any u _ hu (hL.below (below_regrown _ _ _)))

theorem new_cells {w : World} {cs : Array Value} {t : TypeId} (d : Nat) (os : Array Obj) (j : Nat) (u : Value) (h : cs[j]? = some u) : (grow (redrawn (w.alloc (.cells cs t)) d) os).cell? ⟨w.heap.size, j, none⟩ = some u :=
  cell_regrown ((cell_of_row _ _ j cs t _ (heap_alloc_new w _)).trans h) d os

theorem c9_0 {w : World} (a0 a1 a2 a3 a4 a5 a6 a7 a8 : Value) (d : Nat) (os : Array Obj) : (grow (redrawn (w.alloc (.cells #[a0, a1, a2, a3, a4, a5, a6, a7, a8] 26)) d) os).cell? ⟨w.heap.size, 0, none⟩ = some a0 := new_cells d os 0 _ rfl
theorem c9_1 {w : World} (a0 a1 a2 a3 a4 a5 a6 a7 a8 : Value) (d : Nat) (os : Array Obj) : (grow (redrawn (w.alloc (.cells #[a0, a1, a2, a3, a4, a5, a6, a7, a8] 26)) d) os).cell? ⟨w.heap.size, 1, none⟩ = some a1 := new_cells d os 1 _ rfl
theorem c9_2 {w : World} (a0 a1 a2 a3 a4 a5 a6 a7 a8 : Value) (d : Nat) (os : Array Obj) : (grow (redrawn (w.alloc (.cells #[a0, a1, a2, a3, a4, a5, a6, a7, a8] 26)) d) os).cell? ⟨w.heap.size, 2, none⟩ = some a2 := new_cells d os 2 _ rfl
theorem c9_3 {w : World} (a0 a1 a2 a3 a4 a5 a6 a7 a8 : Value) (d : Nat) (os : Array Obj) : (grow (redrawn (w.alloc (.cells #[a0, a1, a2, a3, a4, a5, a6, a7, a8] 26)) d) os).cell? ⟨w.heap.size, 3, none⟩ = some a3 := new_cells d os 3 _ rfl
theorem c9_4 {w : World} (a0 a1 a2 a3 a4 a5 a6 a7 a8 : Value) (d : Nat) (os : Array Obj) : (grow (redrawn (w.alloc (.cells #[a0, a1, a2, a3, a4, a5, a6, a7, a8] 26)) d) os).cell? ⟨w.heap.size, 4, none⟩ = some a4 := new_cells d os 4 _ rfl
theorem c9_5 {w : World} (a0 a1 a2 a3 a4 a5 a6 a7 a8 : Value) (d : Nat) (os : Array Obj) : (grow (redrawn (w.alloc (.cells #[a0, a1, a2, a3, a4, a5, a6, a7, a8] 26)) d) os).cell? ⟨w.heap.size, 5, none⟩ = some a5 := new_cells d os 5 _ rfl
theorem c9_6 {w : World} (a0 a1 a2 a3 a4 a5 a6 a7 a8 : Value) (d : Nat) (os : Array Obj) : (grow (redrawn (w.alloc (.cells #[a0, a1, a2, a3, a4, a5, a6, a7, a8] 26)) d) os).cell? ⟨w.heap.size, 6, none⟩ = some a6 := new_cells d os 6 _ rfl
theorem c9_7 {w : World} (a0 a1 a2 a3 a4 a5 a6 a7 a8 : Value) (d : Nat) (os : Array Obj) : (grow (redrawn (w.alloc (.cells #[a0, a1, a2, a3, a4, a5, a6, a7, a8] 26)) d) os).cell? ⟨w.heap.size, 7, none⟩ = some a7 := new_cells d os 7 _ rfl
theorem c9_8 {w : World} (a0 a1 a2 a3 a4 a5 a6 a7 a8 : Value) (d : Nat) (os : Array Obj) : (grow (redrawn (w.alloc (.cells #[a0, a1, a2, a3, a4, a5, a6, a7, a8] 26)) d) os).cell? ⟨w.heap.size, 8, none⟩ = some a8 := new_cells d os 8 _ rfl

abbrev TgR (o : O) (w : World) (e : Ending) (w' : World) : Prop := e = .returned (.string (targetB o)) ∧ Below w.heap.size w w'

set_option maxHeartbeats 1000000 in
set_option maxRecDepth 100000 in
theorem target_1 (o : O) (pv dv : Value) (w : World) (hk : o.kind = 1 ∨ o.kind = 2) (hS : SmO o) :
    Calls Tryz.prog 34 #[opV o pv dv] w (TgR o w) := by
  have hbu := hS.bu
  have HT : Hid (targetB o = sSlash ++ o.bu) := by unfold Hid targetB; rw [if_pos hk]
  go_enter Tryz.func34, Tryz.ntmps34
  rcases hk with hk | hk
  all_goals go_wp2
  all_goals go_ret
  all_goals exact ⟨ret_str HT.out.symm, (Below.refl _ _).alloc (Nat.le_refl _) _⟩

set_option maxHeartbeats 2000000 in
set_option maxRecDepth 100000 in
theorem target_8 (o : O) (pv dv : Value) (w : World) (hk : o.kind = 8) (hO : OkO o) (hS : SmO o) (hL : Lib0 w) :
    Calls Tryz.prog 34 #[opV o pv dv] w (TgR o w) := by
  have HT : Hid (targetB o = sUpload ++ hexB o.up ++ sPart ++ itoaB o.n) := by unfold Hid targetB; rw [if_neg (by omega), if_neg (by omega), if_pos hk]
  have hz1 := hexB_size o.up
  have hz2 := itoaB_size hS.n0 hS.n1
  have hB : ∀ cs t, Below w.heap.size w (w.alloc (.cells cs t)) := fun cs t => (Below.refl _ _).alloc (Nat.le_refl _) _
  have HI : Hid (∀ cs t d os, Calls Tryz.prog 36 #[.int .i64 o.n] (grow (redrawn (w.alloc (.cells cs t)) d) os) fun e w'' => e = .returned (.string (itoaB o.n)) ∧ ∃ p : Regrown, w'' = grow (redrawn (w.alloc (.cells cs t)) p.d) p.os) := fun cs t d os => itoa_re (hL.below (hB cs t)) o.n hO.n0 hO.n1 d os
  have HX : Hid (∀ cs t d os, Calls Tryz.prog 35 #[.int .u64 o.up] (grow (redrawn (w.alloc (.cells cs t)) d) os) fun e w'' => e = .returned (.string (hexB o.up)) ∧ ∃ p : Regrown, w'' = grow (redrawn (w.alloc (.cells cs t)) p.d) p.os) := fun cs t d os => sixteen_re (hL.below (hB cs t)) o.up hO.up d os
  have HB := Lib.hid hB
  clear hB
  have k5 := @c9_5 w
  have k6 := @c9_6 w
  have n1 : ¬ 9223372036854775807 < 9 + 16 + 6 + (itoaB o.n).size := by omega
  go_enter Tryz.func34, Tryz.ntmps34
  go_wp2
  refine wp_region_quiet_below (by kernel_rfl) (by kernel_rfl) ?_
  repeat (quiet_step (first | (go_at_call 36; exact HI.out _ _ _ _) | (go_at_call 35; exact HX.out _ _ _ _)))
  refine wpQuiet_nil ?_
  intro _ hw'
  obtain ⟨⟨dq, osq⟩, hw''⟩ := hw'
  subst hw''
  go_wp2
  go_ret
  exact ⟨ret_str HT.out.symm, (HB.out _ _).trans ((below_regrown _ _ _).mono (by rw [World.size_alloc]; omega))⟩

set_option maxHeartbeats 2000000 in
set_option maxRecDepth 100000 in
theorem target_6 (o : O) (pv dv : Value) (w : World) (hk : o.kind = 6) (hO : OkO o) (hS : SmO o) (hL : Lib0 w) :
    Calls Tryz.prog 34 #[opV o pv dv] w (TgR o w) := by
  have HT : Hid (targetB o = sSlash ++ o.bu ++ sPrefix ++ escB o.ke ++ sAfter ++ escB o.af ++ sN ++ itoaB o.n) := by unfold Hid targetB; rw [if_neg (by omega), if_pos hk]
  have hz1 := hS.bu
  have hz2 := itoaB_size hS.n0 hS.n1
  have hz3 := escB_size o.ke
  have hz4 := escB_size o.af
  have hz5 := hS.ke
  have hz6 := hS.af
  have hB : ∀ cs t, Below w.heap.size w (w.alloc (.cells cs t)) := fun cs t => (Below.refl _ _).alloc (Nat.le_refl _) _
  have HI : Hid (∀ cs t d os, Calls Tryz.prog 36 #[.int .i64 o.n] (grow (redrawn (w.alloc (.cells cs t)) d) os) fun e w'' => e = .returned (.string (itoaB o.n)) ∧ ∃ p : Regrown, w'' = grow (redrawn (w.alloc (.cells cs t)) p.d) p.os) := fun cs t d os => itoa_re (hL.below (hB cs t)) o.n hO.n0 hO.n1 d os
  have hx1 : o.ke.size ≤ 1073741824 := by omega
  have hx2 : o.af.size ≤ 1073741824 := by omega
  have HB := Lib.hid hB
  clear hB
  have k2 := @c9_2 w
  have k3 := @c9_3 w
  have k4 := @c9_4 w
  have k5 := @c9_5 w
  have n1 : ¬ 9223372036854775807 < 1 + o.bu.size := by omega
  have n2 : ¬ 9223372036854775807 < 1 + o.bu.size + 8 := by omega
  have n3 : ¬ 9223372036854775807 < 1 + o.bu.size + 8 + (escB o.ke).size := by omega
  have n4 : ¬ 9223372036854775807 < 1 + o.bu.size + 8 + (escB o.ke).size + 7 := by omega
  have n5 : ¬ 9223372036854775807 < 1 + o.bu.size + 8 + (escB o.ke).size + 7 + (escB o.af).size := by omega
  have n6 : ¬ 9223372036854775807 < 1 + o.bu.size + 8 + (escB o.ke).size + 7 + (escB o.af).size + 3 := by omega
  have n7 : ¬ 9223372036854775807 < 1 + o.bu.size + 8 + (escB o.ke).size + 7 + (escB o.af).size + 3 + (itoaB o.n).size := by omega
  go_enter Tryz.func34, Tryz.ntmps34
  go_wp2
  refine wp_region_quiet_below (by kernel_rfl) (by kernel_rfl) ?_
  repeat (quiet_step (first | (go_at_call 36; exact HI.out _ _ _ _) | (go_at_call 15; exact escape_re _ (by assumption) _ _)))
  refine wpQuiet_nil ?_
  intro _ hw'
  obtain ⟨⟨dq, osq⟩, hw''⟩ := hw'
  subst hw''
  go_wp2
  go_ret
  exact ⟨ret_str HT.out.symm, (HB.out _ _).trans ((below_regrown _ _ _).mono (by rw [World.size_alloc]; omega))⟩

set_option maxHeartbeats 2000000 in
set_option maxRecDepth 100000 in
theorem target_10 (o : O) (pv dv : Value) (w : World) (hk : o.kind = 10) (hO : OkO o) (hL : Lib0 w) :
    Calls Tryz.prog 34 #[opV o pv dv] w (TgR o w) := by
  have HT : Hid (targetB o = sUpload ++ hexB o.up) := by unfold Hid targetB; rw [if_neg (by omega), if_neg (by omega), if_neg (by omega), if_neg (by omega), if_pos hk]
  have hz1 := hexB_size o.up
  have hB : ∀ cs t, Below w.heap.size w (w.alloc (.cells cs t)) := fun cs t => (Below.refl _ _).alloc (Nat.le_refl _) _
  have HX : Hid (∀ cs t, Calls Tryz.prog 35 #[.int .u64 o.up] (w.alloc (.cells cs t)) fun e w'' => e = .returned (.string (hexB o.up)) ∧ Below (w.alloc (.cells cs t)).heap.size (w.alloc (.cells cs t)) w'') := fun cs t => sixteen_any o.up _ hO.up (hL.below (hB cs t))
  have HB := Lib.hid hB
  clear hB
  go_enter Tryz.func34, Tryz.ntmps34
  go_wp2_with (go_at_call 35; refine (HX.out _ _).mono ?_; rintro e w1 ⟨rfl, hb1⟩)
  go_ret
  exact ⟨ret_str HT.out.symm, (HB.out _ _).trans (hb1.mono (by rw [World.size_alloc]; omega))⟩

set_option maxHeartbeats 2000000 in
set_option maxRecDepth 100000 in
theorem target_3 (o : O) (pv dv : Value) (w : World) (hk : o.kind = 3 ∨ o.kind = 4 ∨ o.kind = 5 ∨ o.kind = 7) (hS : SmO o) :
    Calls Tryz.prog 34 #[opV o pv dv] w (TgR o w) := by
  have HT : Hid (targetB o = sSlash ++ o.bu ++ sSlash ++ escB o.ke) := by unfold Hid targetB; rw [if_neg (by omega), if_neg (by omega), if_neg (by omega), if_neg (by omega), if_neg (by omega)]
  have hz1 := hS.bu
  have hz3 := escB_size o.ke
  have hz5 := hS.ke
  have HB : Hid (∀ cs t, Below w.heap.size w (w.alloc (.cells cs t))) := fun cs t => (Below.refl _ _).alloc (Nat.le_refl _) _
  have HX : Hid (∀ W d os, Calls Tryz.prog 15 #[.string o.ke] (grow (redrawn W d) os) fun e w'' => e = .returned (.string (escB o.ke)) ∧ ∃ p : Regrown, w'' = grow (redrawn W p.d) p.os) := fun W d os => escape_re o.ke (by omega) d os
  have k2 := @c9_2 w
  have k3 := @c9_3 w
  have n1 : ¬ 9223372036854775807 < 1 + o.bu.size := by omega
  have n2 : ¬ 9223372036854775807 < 1 + o.bu.size + 1 := by omega
  have n3 : ¬ 9223372036854775807 < 1 + o.bu.size + 1 + (escB o.ke).size := by omega
  go_enter Tryz.func34, Tryz.ntmps34
  rcases hk with hk | hk | hk | hk
  all_goals
    go_wp2
    refine wp_region_quiet_below (by kernel_rfl) (by kernel_rfl) ?_
    repeat (quiet_step (exact HX.out _ _ _))
    refine wpQuiet_nil ?_
    intro _ hw'
    obtain ⟨⟨dq, osq⟩, hw''⟩ := hw'
    subst hw''
    go_wp2
    go_ret
    exact ⟨ret_str HT.out.symm, (HB.out _ _).trans ((below_regrown _ _ _).mono (by rw [World.size_alloc]; omega))⟩
end Go.Proofs.YtnlooggibopknaaGreatDoor

/- The walk of front's target at a list of parts; target at any right op. -/
namespace Go.Proofs.YtnlooggibopknaaGreatDoor
open Go.RowKit Go.Sort

def scells (l : List ByteArray) : List Value := l.map Value.string
theorem scells_app (a b : List ByteArray) : scells (a ++ b) = scells a ++ scells b := by simp [scells]
theorem scells_one (l : List ByteArray) : ∀ u ∈ scells l, u.oneCell' = true := by
  intro u hu; simp only [scells, List.mem_map] at hu; obtain ⟨c, _, rfl⟩ := hu; rfl
theorem commas_snoc (ps : List Int) (k : Nat) (h : k < ps.length) : (ps.take (k + 1)).map itoaB = (ps.take k).map itoaB ++ [itoaB (atI ps k)] := by
  rw [List.take_succ_eq_append_getElem h, List.map_append]
  simp [atI, h]
theorem own_cap {w : World} {B e s : Nat} {a : Option Addr} {n m c : Nat} {xs : List Value} (h : w.ownsRow B e s (.slice a n c) m xs) : n ≤ c := by
  rcases h.2 with ⟨e, _⟩ | ⟨g, cap, cur, e, _, _, hn, _⟩
  · cases e; omega
  · cases e; omega
theorem commaB_of (ps : List Int) : (⟨(Lib.join ((ps.map itoaB).map (·.data.toList)) [44]).toArray⟩ : ByteArray) = commaB ps := by
  unfold commaB
  rw [List.map_map]
  congr 2

set_option maxHeartbeats 2000000 in
set_option maxRecDepth 100000 in
theorem target_9 (o : O) (pv dv : Value) (w : World) (hk : o.kind = 9) (hp : RowIn w pv (icells o.ps)) (hO : OkO o) (hS : SmO o) (h1 : 1 ≤ o.ps.length) (hL : Lib0 w) :
    Calls Tryz.prog 34 #[opV o pv dv] w (TgR o w) := by
  obtain ⟨i0, hi, hz0, hz1, hz2⟩ := info_parts info9
  have hpl : (icells o.ps).length = o.ps.length := by simp [icells]
  rcases hp with ⟨a, c, rfl, h0⟩ | ⟨b, of, c, h0, rfl, hbw, hc⟩
  · rw [h0] at hpl; simp at hpl; omega
  rw [hpl]
  rw [hpl] at h0
  have HT : Hid (targetB o = sUpload ++ hexB o.up ++ sParts ++ commaB o.ps) := by unfold Hid targetB; rw [if_neg (by omega), if_neg (by omega), if_neg (by omega), if_pos hk]
  have hz4 := hexB_size o.up
  have hps := hS.ps
  have HJ := Lib.hid (commaB_size hS.ps hS.pe)
  have HL := Lib.hid hL
  have HO := Lib.hid hO
  have HE : Hid (∀ k, k < o.ps.length → 1 ≤ atI o.ps k ∧ atI o.ps k ≤ 10000) := fun k h => by
    have e : atI o.ps k = o.ps[k] := by simp [atI, h]
    rw [e]; exact hS.pe _ (List.getElem_mem h)
  have HC : Hid (∀ wr, Below w.heap.size w wr → ∀ k (h : k < o.ps.length), wr.cell? ⟨b, of + k, none⟩ = some (.int .i64 (atI o.ps k))) := fun wr hb k h => ((bcell hb).1 b (of + k) hbw).trans (hc k _ (by simp [icells, atI, List.getD, h]))
  clear hc hpl hS hL hO
  go_enter Tryz.func34, Tryz.ntmps34
  go_wp2
  go_loopw [3, 50] (fun v i wr => ∃ k : Nat, k ≤ o.ps.length ∧ i = .int .i64 k ∧ wr.ownsRow (w.heap.size + 1) 9 1 v k (scells ((o.ps.take k).map itoaB)) ∧ Below w.heap.size w wr ∧ wr.cell? ⟨w.heap.size, 6, none⟩ = some (.int .u64 o.up) ∧ w.heap.size < wr.heap.size) (fun _ i _ => o.ps.length - (intOf i).toNat)
  case atStart => exact ⟨0, Nat.zero_le _, rfl, World.ownsRow_nil _ _ _ _, (Below.refl _ _).alloc (Nat.le_refl _) _, cell_of_row _ _ 6 _ _ _ (heap_alloc_new w _), by rw [World.size_alloc]; omega⟩
  case round =>
    obtain ⟨k, hk2, rfl, hown, hb, h6, hsz⟩ := hrel
    by_cases hlt : k < o.ps.length
    · have hck := HC.out wr hb k hlt
      have hE := HE.out k hlt
      have hzI := itoaB_size (n := atI o.ps k) (by omega) (by omega)
      have HS := Lib.hid (commas_snoc o.ps k hlt)
      have HI := Lib.hid (itoa_any (atI o.ps k) wr (by omega) (by omega) (HL.out.below hb))
      have hl1 : k + 1 ≤ maxLen := by unfold maxLen; omega
      have hl3 : (k + 1) * 16 ≤ 140737488355328 := by omega
      clear hE
      go_wp2_with fail
      refine HI.out.mono ?_
      rintro e w1 ⟨rfl, hb1⟩
      have hown1 := own_below hown hb1
      have hs1 := hb1.size
      go_wp2_with (at_builtin; refine wpList_append_lies _ rfl _ _ 46 rfl (w.heap.size + 1) 9 i0 (.string ⟨#[]⟩) 1 16 Tryz.underlying46 hi hz0 hz1 hz2 rfl (by decide) _ _ _ rfl (hown1.alloc _) ⟨w1.heap.size, 0, none⟩ 1 1 _ rfl rfl (news_new _ _ _) (by intro u hu; simp at hu; subst hu; rfl) (by decide) hl1 hl3 (by simp; omega) _ rfl ?_; intro g cap w2 hown2 hgr2 hat2 hlt2)
      go_roundw
      case rel =>
        have hbW : Below w.heap.size w (w1.alloc (.cells #[.string (itoaB (atI o.ps k))] 9)) := (hb.trans (hb1.mono hb.size)).alloc (by omega) _
        have h61 : (w1.alloc (.cells #[.string (itoaB (atI o.ps k))] 9)).cell? ⟨w.heap.size, 6, none⟩ = some (.int .u64 o.up) := by
          rw [((Below.refl w1.heap.size w1).alloc (Nat.le_refl _) _).cell (p := ⟨w.heap.size, 6, none⟩) (by show w.heap.size < _; omega), (bcell hb1).1 _ _ hsz]; exact h6
        refine ⟨k + 1, by omega, by go_num, own_eq hown2 rfl ?_, hbW.grown hgr2 (by rw [World.size_alloc]; omega) (fun j hj => by have := own_lt hown1 j hj; omega), ?_, ?_⟩
        · rw [HS.out, scells_app]; rfl
        · rw [hgr2.cell_far ⟨w.heap.size, 6, none⟩ (by rw [World.size_alloc]; show w.heap.size < _; omega) (fun hj => by have := own_lt hown1 _ hj.symm; exact absurd this (by show ¬ w.heap.size + 1 ≤ w.heap.size; omega))]; exact h61
        · have := (hgr2.size); rw [World.size_alloc] at this; omega
      case measure => simp [intOf]; omega
    · obtain rfl : k = o.ps.length := by omega
      obtain ⟨g, cap, rfl, hg1, hg2⟩ := hown.form (by omega)
      have hcap := own_cap hown
      rw [List.take_length] at hown
      have hX := Lib.hid (sixteen_any o.up wr HO.out.up (HL.out.below hb))
      have HJ2 : Hid (∀ w1, Below wr.heap.size wr w1 → Calls Tryz.prog 70 #[.slice (some ⟨g, 0, none⟩) o.ps.length cap, .string ⟨#[44]⟩] w1 fun e w' => e = .returned (.string (commaB o.ps)) ∧ Below w1.heap.size w1 w') := fun w1 hb1 => by
        have hown1 := own_below hown hb1
        have := Tryz.strings_Join g 0 cap (o.ps.map itoaB) ⟨#[44]⟩ w1 (fun j x hj => by
          have := hown1.cells (g := g) rfl j (.string x) (by unfold scells; rw [List.getElem?_map, hj]; rfl)
          rw [← this]
          unfold Addr.add
          split <;> simp_all) (Nat.lt_of_lt_of_le hg2 hb1.size) (by rw [List.length_map]; omega) (by rw [List.length_map]; omega) (by rw [List.map_map]; have := HJ.out; exact Nat.le_trans this (by decide))
        rw [List.length_map, commaB_of] at this
        exact this
      have hzJ : (commaB o.ps).size ≤ 60000 := by have := HJ.out; show (List.toArray _).size ≤ 60000; rw [List.size_toArray]; exact this
      clear hown
      go_wp2_with fail
      refine hX.out.mono ?_
      rintro e w1 ⟨rfl, hb1⟩
      go_wp2_with fail
      refine (HJ2.out _ hb1).mono ?_
      rintro e w2 ⟨rfl, hb2⟩
      go_wp2
      go_ret
      exact ⟨ret_str HT.out.symm, (hb.trans (hb1.mono hb.size)).trans (hb2.mono (Nat.le_trans hb.size hb1.size))⟩

theorem target_any (o : O) (pv dv : Value) (w : World) (hp : RowIn w pv (icells o.ps)) (hO : OkO o) (hc : chkB o = true) (hL : Lib0 w) :
    Calls Tryz.prog 34 #[opV o pv dv] w (TgR o w) := by
  have hS := sm_of_chk hc
  by_cases h1 : o.kind = 1 ∨ o.kind = 2
  · exact target_1 o pv dv w h1 hS
  by_cases h6 : o.kind = 6
  · exact target_6 o pv dv w h6 hO hS hL
  by_cases h8 : o.kind = 8
  · exact target_8 o pv dv w h8 hO hS hL
  by_cases h9 : o.kind = 9
  · refine target_9 o pv dv w h9 hp hO hS ?_ hL
    unfold chkB at hc
    rw [if_neg (by omega), if_neg (by omega), if_neg (by omega), if_neg (by omega), if_neg (by omega), if_pos h9] at hc
    simp only [Bool.and_eq_true] at hc
    exact (rises_mem hc.1.2).1
  by_cases h10 : o.kind = 10
  · exact target_10 o pv dv w h10 hO hL
  by_cases h3 : o.kind = 3 ∨ o.kind = 4 ∨ o.kind = 5 ∨ o.kind = 7
  · exact target_3 o pv dv w h3 hS
  · unfold chkB at hc
    rw [if_neg (by omega), if_neg (by omega), if_neg (by omega), if_neg (by omega), if_neg (by omega), if_neg (by omega), if_neg (by omega)] at hc
    cases hc
end Go.Proofs.YtnlooggibopknaaGreatDoor
