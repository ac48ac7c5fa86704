/- The walks of the laws' own small functions: known, few. -/
import Derived.Test.YtnlooggibopknaaGreatDoorPl
import Derived.Test.YtnlooggibopknaaGreatDoorW33
import Derived.Test.YtnlooggibopknaaGreatDoorW39
namespace Go.Proofs.YtnlooggibopknaaGreatDoor
open Go.RowKit Go.Sort

def knownO : O := ⟨10, 4, ⟨#[98]⟩, ⟨#[97, 47, 195, 169]⟩, ⟨#[]⟩, 0, 0, [], []⟩
def knownL : List UInt8 := [71, 69, 84, 32, 47, 98, 47, 97, 37, 50, 70, 37, 67, 51, 37, 65, 57, 32, 71, 76, 67, 47, 49, 13, 10, 105, 100, 58, 32, 48, 48, 48, 48, 48, 48, 48, 48, 48, 48, 48, 48, 48, 48, 48, 97, 13, 10, 108, 101, 110, 103, 116, 104, 58, 32, 48, 13, 10, 13, 10]
theorem known_chk : chkB knownO = true := by decide +kernel
theorem known_ok : OkO knownO := ⟨by decide, by decide, by decide, by decide⟩
theorem dec_zero : decB 0 = ⟨#[48]⟩ := by unfold decB; rw [Lib.decDigits]; rfl
theorem known_print : printL knownO = knownL := by
  unfold printL
  rw [show knownO.da.length = 0 from rfl, dec_zero]
  decide +kernel

/-- What Parse tells of the known bytes. -/
def PaK (w : World) (e : Ending) (w' : World) : Prop := ∃ pa pc da dc, e = .returned (.tuple #[.agg #[.int .u64 10, .int .i64 4, .string ⟨#[98]⟩, .string ⟨#[97, 47, 195, 169]⟩, .string ⟨#[]⟩, .int .i64 0, .int .u64 0, .slice pa 0 pc, .slice da 0 dc], .int .i64 200]) ∧ Below w.heap.size w w'
theorem pa_known {w : World} {e : Ending} {w' : World} (h : PaR (knownO, 200) w e w') : PaK w e w' := by
  obtain ⟨pv, dv, he, hp, hd, hb⟩ := h
  obtain ⟨pa, pc, rfl⟩ := hp.row.form
  obtain ⟨da, dc, rfl⟩ := hd.row.form
  exact ⟨pa, pc, da, dc, he, hb⟩

set_option maxHeartbeats 1000000 in
set_option maxRecDepth 100000 in
theorem known_law (w : World) (hL : Lib0 w) : Calls Tryz.prog 11 #[] w fun e w' => e = .returned (.bool true) ∧ Below w.heap.size w w' := by
  have HP : Hid (Calls Tryz.prog 13 #[.agg #[.int .u64 10, .int .i64 4, .string ⟨#[98]⟩, .string ⟨#[97, 47, 195, 169]⟩, .string ⟨#[]⟩, .int .i64 0, .int .u64 0, .slice none 0 0, .slice none 0 0]] w (PrR knownO w)) :=
    print_any knownO (.slice none 0 0) (.slice none 0 0) w (RowIn.nil _ _ _) (RowIn.nil _ _ _) (by decide) known_ok hL
  have HL := Lib.hid hL
  have hk : prL knownO = knownL := by unfold prL; rw [if_pos known_chk, known_print]
  clear hL
  go_enter Tryz.func11, Tryz.ntmps11
  go_wp2_with fail
  refine HP.out.mono ?_
  rintro e w1 ⟨v, rfl, hR, hb1⟩
  obtain ⟨va, vc, rfl⟩ := hR.row.form
  rw [hk] at hR
  simp only [hk, known_chk, if_true]
  have hn : (bcells knownL).length = 60 := rfl
  rw [hn] at hR
  simp only [hn]
  have HA := parse_any knownL (.slice va 60 vc) w1 hR (by decide) (HL.out.below hb1)
  have hpk : parseF knownL = (knownO, 200) := by rw [← known_print]; exact parseF_print known_chk known_ok
  rw [hpk] at HA
  clear hpk
  have HR := Lib.hid hR
  have HB1 := Lib.hid hb1
  clear hR hb1 hk hn
  go_wp2_with fail
  refine (HA.mono fun _ _ h => pa_known h).mono ?_
  rintro e w2 ⟨pa, pc, da, dc, rfl, hb2⟩
  clear HA
  have hcv : (convert 24 9 (.slice va 60 vc)).run Tryz.prog (w2.alloc (.cells #[.int .u64 10, .int .i64 4, .string ⟨#[98]⟩, .string ⟨#[97, 47, 195, 169]⟩, .string ⟨#[]⟩, .int .i64 0, .int .u64 0, (.slice pa 0 pc), (.slice da 0 dc)] 26)) = .ok (.string (mkB knownL)) _ := convert_row (HR.out.row.below (hb2.trans ((Below.refl _ _).alloc hb2.size _)))
  have hq : ((mkB knownL).toList == [71, 69, 84, 32, 47, 98, 47, 97, 37, 50, 70, 37, 67, 51, 37, 65, 57, 32, 71, 76, 67, 47, 49, 13, 10, 105, 100, 58, 32, 48, 48, 48, 48, 48, 48, 48, 48, 48, 48, 48, 48, 48, 48, 48, 97, 13, 10, 108, 101, 110, 103, 116, 104, 58, 32, 48, 13, 10, 13, 10]) = true := by rw [q_of]; exact decide_eq_true rfl
  have HB2 : Hid (Below w.heap.size w (w2.alloc (.cells #[.int .u64 10, .int .i64 4, .string ⟨#[98]⟩, .string ⟨#[97, 47, 195, 169]⟩, .string ⟨#[]⟩, .int .i64 0, .int .u64 0, (.slice pa 0 pc), (.slice da 0 dc)] 26))) := (HB1.out.trans (hb2.mono HB1.out.size)).alloc (by have := HB1.out.size; have := hb2.size; omega) _
  clear hb2
  go_wp2
  go_ret
  exact ⟨rfl, HB2.out⟩

def fewB (o : O) : Bool := decide (o.bu.size + o.ke.size + o.af.size + o.da.length ≤ 262144) && decide (o.ps.length ≤ 20000)
/-- Each text, each row of an op is of a size that can be read. -/
structure RdO (o : O) : Prop where
  bu : o.bu.size ≤ 140737488355328
  ke : o.ke.size ≤ 140737488355328
  af : o.af.size ≤ 140737488355328
  ps : o.ps.length ≤ 140737488355328
  da : o.da.length ≤ 140737488355328
set_option maxHeartbeats 1000000 in
set_option maxRecDepth 100000 in
theorem few_law (o : O) (pa da : Option Addr) (pc dc : Nat) (w : World) (hR : RdO o) : Calls Tryz.prog 12 #[opV o (.slice pa o.ps.length pc) (.slice da o.da.length dc)] w fun e w' => e = .returned (.bool (fewB o)) ∧ Below w.heap.size w w' := by
  have h1 := hR.bu
  have h2 := hR.ke
  have h3 := hR.af
  have h4 := hR.ps
  have h5 := hR.da
  have HB : Hid (∀ x, Below w.heap.size w (w.alloc x)) := fun x => (Below.refl _ _).alloc (Nat.le_refl _) x
  clear hR
  by_cases hs : o.bu.size + o.ke.size + o.af.size + o.da.length ≤ 262144
  · have hsi : (o.bu.size : Int) + (o.ke.size : Int) + (o.af.size : Int) + (o.da.length : Int) ≤ 262144 := by omega
    by_cases hp : o.ps.length ≤ 20000
    · have hpi : (o.ps.length : Int) ≤ 20000 := by omega
      have HF : Hid (fewB o = true) := by unfold Hid fewB; rw [decide_eq_true hs, decide_eq_true hp]; rfl
      go_enter Tryz.func12, Tryz.ntmps12
      go_wp2
      go_ret
      exact ⟨ret_bool (by rw [HF.out]), HB.out _⟩
    · have hpi : ¬ (o.ps.length : Int) ≤ 20000 := by omega
      have HF : Hid (fewB o = false) := by unfold Hid fewB; rw [decide_eq_false hp, Bool.and_false]
      go_enter Tryz.func12, Tryz.ntmps12
      go_wp2
      go_ret
      exact ⟨ret_bool (by rw [HF.out]), HB.out _⟩
  · have hsi : ¬ (o.bu.size : Int) + (o.ke.size : Int) + (o.af.size : Int) + (o.da.length : Int) ≤ 262144 := by omega
    have HF : Hid (fewB o = false) := by unfold Hid fewB; rw [decide_eq_false hs, Bool.false_and]
    go_enter Tryz.func12, Tryz.ntmps12
    go_wp2
    go_ret
    exact ⟨ret_bool (by rw [HF.out]), HB.out _⟩
end Go.Proofs.YtnlooggibopknaaGreatDoor
