/- The walk of the reference's upload. -/
import Derived.Test.YtnlooggibopknaaGreatDoorRl
import Derived.Test.YtnlooggibopknaaGreatDoorApp
namespace Go.Proofs.YtnlooggibopknaaGreatDoor
open Go.RowKit Go.Sort

/-- What is known of an op that a target has told. -/
structure OpnO (N : Nat) (r : O) : Prop where
  id : r.id = 0
  k0 : 1 ≤ r.kind
  k1 : r.kind ≤ 10
  bu : r.bu.size ≤ N
  ke : r.ke.size ≤ N
  af : r.af.size ≤ N
  n0 : 0 ≤ r.n
  n1 : r.n ≤ 1099511627776
  up : r.up < 2 ^ 64
  ps : r.ps.length ≤ 20001
  pe : PartsOk r.ps
  da : r.da = []
/-- A row that lies above a line. -/
structure RowZ (B : Nat) (w : World) (v : Value) (xs : List Value) : Prop where
  c : RowC w v xs
  off : ∀ b o n cap, v = .slice (some ⟨b, o, none⟩) n cap → 0 < n → B ≤ b
theorem RowZ.nil (B : Nat) (w : World) (a : Option Addr) (c : Nat) : RowZ B w (.slice a 0 c) [] := ⟨RowC.nil w a c, fun _ _ _ _ h h0 => by cases h; omega⟩
theorem RowZ.x {B pb : Nat} {w : World} {v : Value} {xs : List Value} (h : RowZ B w v xs) (hp : pb < B) : RowX pb w v xs := ⟨h.c, fun b o n c e h0 => Nat.lt_of_lt_of_le hp (h.off b o n c e h0)⟩
theorem RowX.z {B pb : Nat} {w : World} {v : Value} {xs : List Value} (h : RowX pb w v xs) (hp : B ≤ pb + 1) : RowZ B w v xs := ⟨h.c, fun b o n c e h0 => by have := h.off b o n c e h0; omega⟩
/-- How target, upload, listing end: an op, and whether it is one; an op that G knows is told. -/
def TgtR (G : O → Prop) (N : Nat) (w : World) (e : Ending) (w' : World) : Prop :=
  ∃ (r : O) (pv : Value) (b : Bool), e = .returned (.tuple #[opV r pv (.slice none 0 0), .bool b]) ∧ RowZ w.heap.size w' pv (icells r.ps) ∧ r.da = [] ∧ (b = true → OpnO N r) ∧ Below w.heap.size w w' ∧ ∀ o, G o → b = true ∧ r = o
theorem tgt_no {G : O → Prop} {N : Nat} {w w' : World} (hb : Below w.heap.size w w') (h : ∀ o, ¬ G o) : TgtR G N w (.returned (.tuple #[opV zeroO (.slice none 0 0) (.slice none 0 0), .bool false])) w' :=
  ⟨zeroO, _, false, rfl, RowZ.nil _ _ _ _, rfl, (fun e => by cases e), hb, fun o ho => absurd ho (h o)⟩

theorem ext_app (a x : ByteArray) : (a ++ x).extract 0 a.size = a ∧ (a ++ x).extract a.size (a ++ x).size = x := by
  constructor
  · apply bl_inj
    rw [show bl ((a ++ x).extract 0 a.size) = _ from Lib.extract_data _ _ _, show (a ++ x).data.toList = bl a ++ bl x from bl_app _ _, ← bl_len a]
    simp
  · apply bl_inj
    rw [show bl ((a ++ x).extract a.size (a ++ x).size) = _ from Lib.extract_data _ _ _, show (a ++ x).data.toList = bl a ++ bl x from bl_app _ _, ByteArray.size_append, ← bl_len a, ← bl_len x]
    simp
    exact List.take_of_length_le (by rw [bl_len]; exact Nat.le_refl _)
theorem ext_16 (u : Nat) (x : ByteArray) : (hexB u ++ x).extract 0 16 = hexB u ∧ (hexB u ++ x).extract 16 (hexB u ++ x).size = x := by
  have h := ext_app (hexB u) x
  rw [hexB_size u] at h
  exact h
theorem itoa_pos {n : Int} (h : 0 ≤ n) : 0 < (itoaB n).size := by
  rw [itoaB_nat n h, ← bl_len, bl_dec]
  exact List.length_pos_iff.2 (dec_ne _)
theorem comma_pos {ps : List Int} (h : ps ≠ []) (h0 : PartsOk ps) : 0 < (commaB ps).size := by
  cases ps with
  | nil => exact absurd rfl h
  | cons p r =>
    have hp := (h0 p (by simp)).1
    cases r with
    | nil => rw [comma_one]; exact itoa_pos hp
    | cons q r => rw [comma_more (by simp), ByteArray.size_append]; have := itoa_pos hp; omega

/-- The ops that stand behind an upload's number. -/
def UplT (how T : ByteArray) (o : O) : Prop := OpnO 0 o ∧ how = methodB o.kind ∧
  ((o.kind = 10 ∧ o.n = 0 ∧ o.ps = [] ∧ T = ⟨#[]⟩) ∨ (o.kind = 8 ∧ o.ps = [] ∧ T = sPart ++ itoaB o.n) ∨ (o.kind = 9 ∧ o.n = 0 ∧ o.ps ≠ [] ∧ o.ps.length ≤ 20000 ∧ T = sParts ++ commaB o.ps))
def UplG (how s : ByteArray) (o : O) : Prop := ∃ T, UplT how T o ∧ s = hexB o.up ++ T
theorem upl_long {how s : ByteArray} {o : O} (h : UplG how s o) : 16 ≤ s.size := by
  obtain ⟨T, _, rfl⟩ := h
  rw [ByteArray.size_append, hexB_size]
  omega
theorem upl_none {how s : ByteArray} {o : O} (hu : unhexL (s.extract 0 16).data.toList = none) : ¬ UplG how s o := by
  rintro ⟨T, h, rfl⟩
  rw [(ext_16 o.up T).1, show (hexB o.up).data.toList = bl (hexB o.up) from rfl, unhex_hex h.1.up] at hu
  cases hu
theorem upl_some {how s : ByteArray} {o : O} {u : Nat} (hu : unhexL (s.extract 0 16).data.toList = some u) (h : UplG how s o) : o.up = u ∧ UplT how (s.extract 16 s.size) o := by
  obtain ⟨T, h, rfl⟩ := h
  rw [(ext_16 o.up T).1, show (hexB o.up).data.toList = bl (hexB o.up) from rfl, unhex_hex h.1.up] at hu
  rw [(ext_16 o.up T).2]
  exact ⟨Option.some.inj hu, h⟩
theorem ba_zero {b : ByteArray} (h : b.size ≤ 0) : b = ⟨#[]⟩ := bl_inj (List.eq_nil_of_length_eq_zero (by rw [bl_len]; omega))
/-- An op of no names. -/
theorem opn_bare {o : O} (h : OpnO 0 o) : o = ⟨0, o.kind, ⟨#[]⟩, ⟨#[]⟩, ⟨#[]⟩, o.n, o.up, o.ps, []⟩ := by
  obtain ⟨i, k, b, e, a, n, u, ps, da⟩ := o
  have h1 : i = 0 := h.id
  have h2 : b = ⟨#[]⟩ := ba_zero h.bu
  have h3 : e = ⟨#[]⟩ := ba_zero h.ke
  have h4 : a = ⟨#[]⟩ := ba_zero h.af
  have h5 : da = [] := h.da
  subst h1 h2 h3 h4 h5
  rfl
theorem meth10 : methodB 10 = bDELETE := by unfold methodB; decide
theorem meth8 : methodB 8 = bPUT := by unfold methodB; decide
theorem meth9 : methodB 9 = bPOST := by unfold methodB; decide
theorem upt_del {T : ByteArray} {o : O} (hT : T.size = 0) (h : UplT bDELETE T o) : o = ⟨0, 10, ⟨#[]⟩, ⟨#[]⟩, ⟨#[]⟩, 0, o.up, [], []⟩ := by
  rcases h.2.2 with ⟨h1, h2, h3, _⟩ | ⟨_, _, rfl⟩ | ⟨_, _, _, _, rfl⟩
  · rw [opn_bare h.1, h1, h2, h3]
  · rw [ByteArray.size_append, show sPart.size = 6 from rfl] at hT; omega
  · rw [ByteArray.size_append, show sParts.size = 7 from rfl] at hT; omega
theorem upt_put {T : ByteArray} {o : O} (hT : 6 < T.size) (h : UplT bPUT T o) : o = ⟨0, 8, ⟨#[]⟩, ⟨#[]⟩, ⟨#[]⟩, o.n, o.up, [], []⟩ ∧ T.extract 6 T.size = itoaB o.n := by
  rcases h.2.2 with ⟨_, _, _, rfl⟩ | ⟨h1, h2, rfl⟩ | ⟨h1, _, _, _, _⟩
  · exact absurd hT (by decide)
  · refine ⟨?_, (ext_app sPart (itoaB o.n)).2⟩
    rw [opn_bare h.1, h1, h2]
  · have := h.2.1
    rw [h1, meth9] at this
    exact absurd this (by decide)
theorem upt_post {T : ByteArray} {o : O} (hT : 7 < T.size) (h : UplT bPOST T o) : o = ⟨0, 9, ⟨#[]⟩, ⟨#[]⟩, ⟨#[]⟩, 0, o.up, o.ps, []⟩ ∧ T.extract 7 T.size = commaB o.ps ∧ o.ps ≠ [] ∧ o.ps.length ≤ 20000 := by
  rcases h.2.2 with ⟨_, _, _, rfl⟩ | ⟨h1, h2, _⟩ | ⟨h1, h2, h3, h4, rfl⟩
  · exact absurd hT (by decide)
  · have := h.2.1
    rw [h1, meth8] at this
    exact absurd this (by decide)
  · refine ⟨?_, (ext_app sParts (commaB o.ps)).2, h3, h4⟩
    rw [opn_bare h.1, h1, h2]
theorem upt_else {how T : ByteArray} (h1 : ¬ (how = bDELETE ∧ T.size = 0)) (h2 : ¬ (how = bPUT ∧ 6 < T.size ∧ T.extract 0 6 = sPart)) (h3 : ¬ (how = bPOST ∧ 7 < T.size ∧ T.extract 0 7 = sParts)) (o : O) : ¬ UplT how T o := by
  rintro ⟨ho, hm, ⟨k, _, _, rfl⟩ | ⟨k, _, rfl⟩ | ⟨k, _, hp, _, rfl⟩⟩
  · exact h1 ⟨by rw [hm, k, meth10], rfl⟩
  · refine h2 ⟨by rw [hm, k, meth8], ?_, (ext_app sPart (itoaB o.n)).1⟩
    rw [ByteArray.size_append, show sPart.size = 6 from rfl]
    have := itoa_pos ho.n0
    omega
  · refine h3 ⟨by rw [hm, k, meth9], ?_, (ext_app sParts (commaB o.ps)).1⟩
    rw [ByteArray.size_append, show sParts.size = 7 from rfl]
    have := comma_pos hp ho.pe
    omega
theorem info26 : (Tryz.prog.info? 26).map (·.size) = some 9 := by kernel_rfl
/-- Out of a function whose op lies in a cell. -/
theorem res_op {fn : Func} {q u : Tmp} (hres : fn.results = #[.cell q 26, .tmp u]) {tmps : Array Value} {W : World} {p : Nat} {r : O} {pv dv x : Value} (h4 : tmps.getD q undef = .pointer (some ⟨p, 0, none⟩)) (h5 : tmps.getD u undef = x) (hp : W.heap[p]? = some (.cells (pC r pv dv) 26 (0, 0))) :
    (results fn tmps).run Tryz.prog W = .ok (.tuple #[opV r pv dv, x]) W := by
  rw [results_cell_tmp hres, h4, h5]
  have hl := run_loadVar_row (P := Tryz.prog) W p 26 26 (pC r pv dv) (0, 0) _ hp Tryz.underlying26 rfl info26
  simp [asAddr, Result.andThen, hl]
  rfl
theorem tgt_ret {fn : Func} {q u : Tmp} (hres : fn.results = #[.cell q 26, .tmp u]) {Q : Ending → World → Prop} {tmps : Array Value} {W : World} {p : Nat} {r : O} {pv dv x : Value} (h4 : tmps.getD q undef = .pointer (some ⟨p, 0, none⟩)) (h5 : tmps.getD u undef = x) (hp : W.heap[p]? = some (.cells (pC r pv dv) 26 (0, 0)))
    (hQ : Q (.returned (.tuple #[opV r pv dv, x])) W) : bodyPost Tryz.prog fn Q Exit.ret { tmps := tmps, defers := [] } W :=
  bodyPost_ret (res_op hres h4 h5 hp) rfl hQ

def opAb (u : Nat) : O := ⟨0, 10, ⟨#[]⟩, ⟨#[]⟩, ⟨#[]⟩, 0, u, [], []⟩
def opPa (u : Nat) (m : Int) : O := ⟨0, 8, ⟨#[]⟩, ⟨#[]⟩, ⟨#[]⟩, m, u, [], []⟩
def opCo (u : Nat) (l : List Int) : O := ⟨0, 9, ⟨#[]⟩, ⟨#[]⟩, ⟨#[]⟩, 0, u, l, []⟩
theorem opn_ab {u : Nat} (hu : u < 2 ^ 64) : OpnO 0 (opAb u) := ⟨rfl, (show (1 : Int) ≤ 10 by decide), (show (10 : Int) ≤ 10 by decide), Nat.le_refl _, Nat.le_refl _, Nat.le_refl _, Int.le_refl _, (show (0 : Int) ≤ 1099511627776 by decide), hu, Nat.zero_le _, (fun p hp => by cases hp), rfl⟩
theorem opn_pa {u : Nat} {m : Int} {x : ByteArray} (hu : u < 2 ^ 64) (h : smallB x = true) (hm : smallB x = true → m = (valD (bl x) : Int)) : OpnO 0 (opPa u m) := by
  have h1 := hm h
  unfold smallB at h
  rw [Bool.and_eq_true, decide_eq_true_eq] at h
  exact ⟨rfl, (show (1 : Int) ≤ 8 by decide), (show (8 : Int) ≤ 10 by decide), Nat.le_refl _, Nat.le_refl _, Nat.le_refl _, by show 0 ≤ m; omega, by show m ≤ _; omega, hu, Nat.zero_le _, (fun p hp => by cases hp), rfl⟩
theorem opn_co {u : Nat} {l : List Int} (hu : u < 2 ^ 64) (h1 : l.length ≤ 20001) (h2 : PartsOk l) : OpnO 0 (opCo u l) :=
  ⟨rfl, (show (1 : Int) ≤ 9 by decide), (show (9 : Int) ≤ 10 by decide), Nat.le_refl _, Nat.le_refl _, Nat.le_refl _, Int.le_refl _, (show (0 : Int) ≤ 1099511627776 by decide), hu, h1, h2, rfl⟩
theorem two_blocks (w : World) (A B : Array Value) : ∃ W, W = (w.alloc (.cells A 26)).alloc (.cells B 26) ∧ W.heap[w.heap.size]? = some (.cells A 26 (0, 0)) ∧ W.heap[w.heap.size + 1]? = some (.cells B 26 (0, 0)) ∧ Below w.heap.size w W := by
  refine ⟨_, rfl, ?_, heap_alloc2_new w _ _, ((Below.refl w.heap.size w).alloc (Nat.le_refl _) _).alloc (by rw [World.size_alloc]; omega) _⟩
  rw [heap_alloc_old _ _ (by rw [World.size_alloc]; omega)]
  exact heap_alloc_new w _
theorem lt_of_at {W : World} {p : Nat} {x : Obj} (h : W.heap[p]? = some x) : p < W.heap.size := (Array.getElem?_eq_some_iff.1 h).1
theorem setOp_low {B p : Nat} {w W : World} (hb : Below B w W) (hp : B ≤ p) (r : O) (pv dv : Value) : Below B w (setOp W p r pv dv) := by
  unfold setOp
  exact (((((((((hb.setCell hp _).setCell hp _).setCell hp _).setCell hp _).setCell hp _).setCell hp _).setCell hp _).setCell hp _).setCell hp _)

set_option maxHeartbeats 4000000 in
set_option maxRecDepth 100000 in
theorem uploadR_any (how s : ByteArray) (w : World) (hs : s.size ≤ 1073741824) : Calls Tryz.prog 112 #[.string how, .string s] w (TgtR (UplG how s) 0 w) := by
  have HB0 : Hid (∀ x, Below w.heap.size w (w.alloc x)) := fun x => (Below.refl _ _).alloc (Nat.le_refl _) x
  by_cases h16 : s.size < 16
  · have hi : (s.size : Int) < 16 := by omega
    have HN : Hid (∀ o, ¬ UplG how s o) := fun o ho => by have := upl_long ho; omega
    go_enter Tryz.func112, Tryz.ntmps112
    go_wp2
    exact tgt_ret Tryz.results112 rfl rfl (heap_alloc_new w _) (tgt_no (HB0.out _) HN.out)
  · have hi : ¬ (s.size : Int) < 16 := by omega
    have hi16 : 16 ≤ s.size := by omega
    have hi16i : (16 : Int) ≤ (s.size : Int) := by omega
    have HX := Lib.hid (hexed_any (s.extract 0 16))
    cases hu : unhexL (s.extract 0 16).data.toList with
    | none =>
      have HE := Lib.hid (unhexE_none hu)
      have HN : Hid (∀ o, ¬ UplG how s o) := fun o => upl_none hu
      clear hu
      go_enter Tryz.func112, Tryz.ntmps112
      go_wp2_with fail
      refine (HX.out _).mono ?_
      rintro e w1 ⟨he, rfl⟩
      rw [← HE.out] at he
      subst he
      go_wp2
      exact tgt_ret Tryz.results112 rfl rfl (heap_alloc_new w _) (tgt_no (HB0.out _) HN.out)
    | some u =>
      have HE := Lib.hid (unhexE_some hu)
      have HU := Lib.hid (unhexL_iff.1 hu).1
      have HG := Lib.hid fun o => upl_some (how := how) (o := o) hu
      have hTz : (s.extract 16 s.size).size = s.size - 16 := by rw [ByteArray.size_extract]; omega
      clear hu
      go_enter Tryz.func112, Tryz.ntmps112
      go_wp2_with fail
      refine (HX.out _).mono ?_
      rintro e w1 ⟨he, rfl⟩
      rw [← HE.out] at he
      subst he
      go_upto_region 8 with fail
      generalize s.extract 16 s.size = T at *
      have hTs : T.size ≤ 1073741824 := by omega
      clear hTz
      by_cases hD : how = bDELETE ∧ T.size = 0
      · have q1 : (how.toList == [68, 69, 76, 69, 84, 69]) = true := by rw [q_of]; exact decide_eq_true hD.1
        have q2 : (T.toList == ([] : List UInt8)) = true := by rw [q_of]; exact decide_eq_true (ba_zero (by omega))
        have HN : Hid (∀ o, UplG how s o → true = true ∧ opAb u = o) := fun o ho => by
          obtain ⟨hu, ht⟩ := HG.out o ho
          rw [hD.1] at ht
          exact ⟨rfl, by rw [upt_del hD.2 ht, hu]; rfl⟩
        clear hD
        go_upto_region 10 with fail
        obtain ⟨W, hW, hz0, hk1, hb⟩ := two_blocks w #[.int .u64 0, .int .i64 0, .string ⟨#[]⟩, .string ⟨#[]⟩, .string ⟨#[]⟩, .int .i64 0, .int .u64 0, .slice none 0 0, .slice none 0 0] #[.int .u64 0, .int .i64 10, .string ⟨#[]⟩, .string ⟨#[]⟩, .string ⟨#[]⟩, .int .i64 0, .int .u64 (u : Int), .slice none 0 0, .slice none 0 0]
        rw [← hW]
        clear hW
        have z0 : W.cell? ⟨w.heap.size, 0, none⟩ = some (.int .u64 0) := cell_of_row _ _ 0 _ _ _ hz0
        have z1 : W.cell? ⟨w.heap.size, 1, none⟩ = some (.int .i64 0) := cell_of_row _ _ 1 _ _ _ hz0
        have z2 : W.cell? ⟨w.heap.size, 2, none⟩ = some (.string ⟨#[]⟩) := cell_of_row _ _ 2 _ _ _ hz0
        have z3 : W.cell? ⟨w.heap.size, 3, none⟩ = some (.string ⟨#[]⟩) := cell_of_row _ _ 3 _ _ _ hz0
        have z4 : W.cell? ⟨w.heap.size, 4, none⟩ = some (.string ⟨#[]⟩) := cell_of_row _ _ 4 _ _ _ hz0
        have z5 : W.cell? ⟨w.heap.size, 5, none⟩ = some (.int .i64 0) := cell_of_row _ _ 5 _ _ _ hz0
        have z6 : W.cell? ⟨w.heap.size, 6, none⟩ = some (.int .u64 0) := cell_of_row _ _ 6 _ _ _ hz0
        have z7 : W.cell? ⟨w.heap.size, 7, none⟩ = some (.slice none 0 0) := cell_of_row _ _ 7 _ _ _ hz0
        have z8 : W.cell? ⟨w.heap.size, 8, none⟩ = some (.slice none 0 0) := cell_of_row _ _ 8 _ _ _ hz0
        have zf : ∀ j, W.frozen? ⟨w.heap.size, j, none⟩ = false := fun j => frozen_of_row W (w.heap.size) j _ _ hz0
        have k0 : W.cell? ⟨w.heap.size + 1, 0, none⟩ = some (.int .u64 0) := cell_of_row _ _ 0 _ _ _ hk1
        have k1 : W.cell? ⟨w.heap.size + 1, 1, none⟩ = some (.int .i64 10) := cell_of_row _ _ 1 _ _ _ hk1
        have k2 : W.cell? ⟨w.heap.size + 1, 2, none⟩ = some (.string ⟨#[]⟩) := cell_of_row _ _ 2 _ _ _ hk1
        have k3 : W.cell? ⟨w.heap.size + 1, 3, none⟩ = some (.string ⟨#[]⟩) := cell_of_row _ _ 3 _ _ _ hk1
        have k4 : W.cell? ⟨w.heap.size + 1, 4, none⟩ = some (.string ⟨#[]⟩) := cell_of_row _ _ 4 _ _ _ hk1
        have k5 : W.cell? ⟨w.heap.size + 1, 5, none⟩ = some (.int .i64 0) := cell_of_row _ _ 5 _ _ _ hk1
        have k6 : W.cell? ⟨w.heap.size + 1, 6, none⟩ = some (.int .u64 (u : Int)) := cell_of_row _ _ 6 _ _ _ hk1
        have k7 : W.cell? ⟨w.heap.size + 1, 7, none⟩ = some (.slice none 0 0) := cell_of_row _ _ 7 _ _ _ hk1
        have k8 : W.cell? ⟨w.heap.size + 1, 8, none⟩ = some (.slice none 0 0) := cell_of_row _ _ 8 _ _ _ hk1
        have kf : ∀ j, W.frozen? ⟨w.heap.size + 1, j, none⟩ = false := fun j => frozen_of_row W (w.heap.size + 1) j _ _ hk1
        go_wp2
        exact tgt_ret (W := setOp W w.heap.size (opAb u) (.slice none 0 0) (.slice none 0 0)) Tryz.results112 rfl rfl (setOp_same hz0 rfl) ⟨opAb u, .slice none 0 0, true, rfl, RowZ.nil _ _ _ _, rfl, (fun _ => opn_ab HU.out), setOp_low hb (Nat.le_refl _) _ _ _, fun o ho => ⟨rfl, (HN.out o ho).2⟩⟩
      have HD : Hid (¬ (how = bDELETE ∧ T.size = 0)) := hD
      by_cases hP : how = bPUT ∧ 6 < T.size ∧ T.extract 0 6 = sPart
      · have q1 : (how.toList == [68, 69, 76, 69, 84, 69]) = false := by rw [q_of, hP.1]; rfl
        have q2 : (how.toList == [80, 85, 84]) = true := by rw [q_of]; exact decide_eq_true hP.1
        have q3 : (6 : Int) < (T.size : Int) := by have := hP.2.1; omega
        have q4 : ((T.extract 0 6).toList == [38, 112, 97, 114, 116, 61]) = true := by rw [q_of]; exact decide_eq_true hP.2.2
        have q5 : (6 : Int) ≤ (T.size : Int) := by omega
        have q6 : 6 ≤ T.size := by omega
        have HS : Hid (∀ W, Calls Tryz.prog 63 #[.string (T.extract 6 T.size)] W fun e w' => SmaR (T.extract 6 T.size) e ∧ Below W.heap.size W w') := fun W => small_any _ W (by rw [ByteArray.size_extract]; omega)
        have HN : Hid (∀ m : Int, (smallB (T.extract 6 T.size) = true → m = (valD (bl (T.extract 6 T.size)) : Int)) → ∀ o, UplG how s o → smallB (T.extract 6 T.size) = true ∧ opPa u m = o) := fun m hm o ho => by
          obtain ⟨hu, ht⟩ := HG.out o ho
          rw [hP.1] at ht
          obtain ⟨h1, h2⟩ := upt_put hP.2.1 ht
          have h3 := small_itoa ht.1.n0 ht.1.n1
          rw [← h2] at h3
          refine ⟨h3.1, ?_⟩
          rw [h1, hm h3.1, h3.2, hu]
          rfl
        clear hP hD
        go_upto_region 13 with fail
        obtain ⟨W, hW, hz0, hk1, hb⟩ := two_blocks w #[.int .u64 0, .int .i64 0, .string ⟨#[]⟩, .string ⟨#[]⟩, .string ⟨#[]⟩, .int .i64 0, .int .u64 0, .slice none 0 0, .slice none 0 0] #[.int .u64 0, .int .i64 8, .string ⟨#[]⟩, .string ⟨#[]⟩, .string ⟨#[]⟩, .int .i64 0, .int .u64 (u : Int), .slice none 0 0, .slice none 0 0]
        rw [← hW]
        clear hW
        go_wp2_with fail
        refine (HS.out _).mono ?_
        rintro e W1 ⟨⟨m, rfl, hm⟩, hb1⟩
        have hsz : w.heap.size + 1 < W.heap.size := lt_of_at hk1
        have hb2 := hb.trans (hb1.mono hb.size)
        replace hz0 : W1.heap[w.heap.size]? = some (.cells #[.int .u64 0, .int .i64 0, .string ⟨#[]⟩, .string ⟨#[]⟩, .string ⟨#[]⟩, .int .i64 0, .int .u64 0, .slice none 0 0, .slice none 0 0] 26 (0, 0)) := (hb1.block _ (by omega)).trans hz0
        replace hk1 : W1.heap[w.heap.size + 1]? = some (.cells #[.int .u64 0, .int .i64 8, .string ⟨#[]⟩, .string ⟨#[]⟩, .string ⟨#[]⟩, .int .i64 0, .int .u64 (u : Int), .slice none 0 0, .slice none 0 0] 26 (0, 0)) := (hb1.block _ (by omega)).trans hk1
        have HN2 := Lib.hid (HN.out m hm)
        have HO : Hid (smallB (T.extract 6 T.size) = true → OpnO 0 (opPa u m)) := fun h => opn_pa HU.out h hm
        clear hm hb1 HN
        generalize smallB (T.extract 6 T.size) = b at *
        have k0 : W1.cell? ⟨w.heap.size + 1, 0, none⟩ = some (.int .u64 0) := cell_of_row _ _ 0 _ _ _ hk1
        have k1 : W1.cell? ⟨w.heap.size + 1, 1, none⟩ = some (.int .i64 8) := cell_of_row _ _ 1 _ _ _ hk1
        have k2 : W1.cell? ⟨w.heap.size + 1, 2, none⟩ = some (.string ⟨#[]⟩) := cell_of_row _ _ 2 _ _ _ hk1
        have k3 : W1.cell? ⟨w.heap.size + 1, 3, none⟩ = some (.string ⟨#[]⟩) := cell_of_row _ _ 3 _ _ _ hk1
        have k4 : W1.cell? ⟨w.heap.size + 1, 4, none⟩ = some (.string ⟨#[]⟩) := cell_of_row _ _ 4 _ _ _ hk1
        have k5 : W1.cell? ⟨w.heap.size + 1, 5, none⟩ = some (.int .i64 0) := cell_of_row _ _ 5 _ _ _ hk1
        have k6 : W1.cell? ⟨w.heap.size + 1, 6, none⟩ = some (.int .u64 (u : Int)) := cell_of_row _ _ 6 _ _ _ hk1
        have k7 : W1.cell? ⟨w.heap.size + 1, 7, none⟩ = some (.slice none 0 0) := cell_of_row _ _ 7 _ _ _ hk1
        have k8 : W1.cell? ⟨w.heap.size + 1, 8, none⟩ = some (.slice none 0 0) := cell_of_row _ _ 8 _ _ _ hk1
        have kf : ∀ j, W1.frozen? ⟨w.heap.size + 1, j, none⟩ = false := fun j => frozen_of_row W1 (w.heap.size + 1) j _ _ hk1
        go_upto_region 14 with fail
        clear k0 k1 k2 k3 k4 k5 k6 k7 k8 kf
        have hk2 := heap_setCell_same W1 (w.heap.size + 1) 5 _ _ (.int .i64 m) hk1
        have hz2 := (Below.heap_setCell W1 ⟨w.heap.size + 1, 5, none⟩ (.int .i64 m) w.heap.size (by simp)).trans hz0
        have hb3 := hb2.setCell (p := ⟨w.heap.size + 1, 5, none⟩) (Nat.le_succ _) (.int .i64 m)
        clear hk1 hz0
        generalize W1.setCell ⟨w.heap.size + 1, 5, none⟩ (.int .i64 m) = W2 at *
        have hz0 := hz2
        have hk1 : W2.heap[w.heap.size + 1]? = some (.cells #[.int .u64 0, .int .i64 8, .string ⟨#[]⟩, .string ⟨#[]⟩, .string ⟨#[]⟩, .int .i64 m, .int .u64 (u : Int), .slice none 0 0, .slice none 0 0] 26 (0, 0)) := hk2
        clear hz2 hk2
        have z0 : W2.cell? ⟨w.heap.size, 0, none⟩ = some (.int .u64 0) := cell_of_row _ _ 0 _ _ _ hz0
        have z1 : W2.cell? ⟨w.heap.size, 1, none⟩ = some (.int .i64 0) := cell_of_row _ _ 1 _ _ _ hz0
        have z2 : W2.cell? ⟨w.heap.size, 2, none⟩ = some (.string ⟨#[]⟩) := cell_of_row _ _ 2 _ _ _ hz0
        have z3 : W2.cell? ⟨w.heap.size, 3, none⟩ = some (.string ⟨#[]⟩) := cell_of_row _ _ 3 _ _ _ hz0
        have z4 : W2.cell? ⟨w.heap.size, 4, none⟩ = some (.string ⟨#[]⟩) := cell_of_row _ _ 4 _ _ _ hz0
        have z5 : W2.cell? ⟨w.heap.size, 5, none⟩ = some (.int .i64 0) := cell_of_row _ _ 5 _ _ _ hz0
        have z6 : W2.cell? ⟨w.heap.size, 6, none⟩ = some (.int .u64 0) := cell_of_row _ _ 6 _ _ _ hz0
        have z7 : W2.cell? ⟨w.heap.size, 7, none⟩ = some (.slice none 0 0) := cell_of_row _ _ 7 _ _ _ hz0
        have z8 : W2.cell? ⟨w.heap.size, 8, none⟩ = some (.slice none 0 0) := cell_of_row _ _ 8 _ _ _ hz0
        have zf : ∀ j, W2.frozen? ⟨w.heap.size, j, none⟩ = false := fun j => frozen_of_row W2 (w.heap.size) j _ _ hz0
        have k0 : W2.cell? ⟨w.heap.size + 1, 0, none⟩ = some (.int .u64 0) := cell_of_row _ _ 0 _ _ _ hk1
        have k1 : W2.cell? ⟨w.heap.size + 1, 1, none⟩ = some (.int .i64 8) := cell_of_row _ _ 1 _ _ _ hk1
        have k2 : W2.cell? ⟨w.heap.size + 1, 2, none⟩ = some (.string ⟨#[]⟩) := cell_of_row _ _ 2 _ _ _ hk1
        have k3 : W2.cell? ⟨w.heap.size + 1, 3, none⟩ = some (.string ⟨#[]⟩) := cell_of_row _ _ 3 _ _ _ hk1
        have k4 : W2.cell? ⟨w.heap.size + 1, 4, none⟩ = some (.string ⟨#[]⟩) := cell_of_row _ _ 4 _ _ _ hk1
        have k5 : W2.cell? ⟨w.heap.size + 1, 5, none⟩ = some (.int .i64 m) := cell_of_row _ _ 5 _ _ _ hk1
        have k6 : W2.cell? ⟨w.heap.size + 1, 6, none⟩ = some (.int .u64 (u : Int)) := cell_of_row _ _ 6 _ _ _ hk1
        have k7 : W2.cell? ⟨w.heap.size + 1, 7, none⟩ = some (.slice none 0 0) := cell_of_row _ _ 7 _ _ _ hk1
        have k8 : W2.cell? ⟨w.heap.size + 1, 8, none⟩ = some (.slice none 0 0) := cell_of_row _ _ 8 _ _ _ hk1
        have kf : ∀ j, W2.frozen? ⟨w.heap.size + 1, j, none⟩ = false := fun j => frozen_of_row W2 (w.heap.size + 1) j _ _ hk1
        go_wp2
        exact tgt_ret (W := setOp W2 w.heap.size (opPa u m) (.slice none 0 0) (.slice none 0 0)) Tryz.results112 rfl rfl (setOp_same hz0 rfl) ⟨opPa u m, .slice none 0 0, b, rfl, RowZ.nil _ _ _ _, rfl, HO.out, setOp_low hb3 (Nat.le_refl _) _ _ _, HN2.out⟩
      have HP : Hid (¬ (how = bPUT ∧ 6 < T.size ∧ T.extract 0 6 = sPart)) := hP
      by_cases hO : how = bPOST ∧ 7 < T.size ∧ T.extract 0 7 = sParts
      · have q1 : (how.toList == [68, 69, 76, 69, 84, 69]) = false := by rw [q_of, hO.1]; rfl
        have q2 : (how.toList == [80, 85, 84]) = false := by rw [q_of, hO.1]; rfl
        have q2' : (how.toList == [80, 79, 83, 84]) = true := by rw [q_of]; exact decide_eq_true hO.1
        have q3 : (7 : Int) < (T.size : Int) := by have := hO.2.1; omega
        have q4 : ((T.extract 0 7).toList == [38, 112, 97, 114, 116, 115, 61]) = true := by rw [q_of]; exact decide_eq_true hO.2.2
        have q5 : (7 : Int) ≤ (T.size : Int) := by omega
        have q6 : 7 ≤ T.size := by omega
        have HS : Hid (∀ W, Calls Tryz.prog 135 #[.string (T.extract 7 T.size)] W (LisR (T.extract 7 T.size) W)) := fun W => listed_any _ W (by rw [ByteArray.size_extract]; omega)
        have HN : Hid (∀ (l : List Int) (b : Bool), (∀ ps : List Int, ps ≠ [] → ps.length ≤ 20000 → PartsOk ps → T.extract 7 T.size = commaB ps → b = true ∧ l = ps) → ∀ o, UplG how s o → b = true ∧ opCo u l = o) := fun l b hl o ho => by
          obtain ⟨hu, ht⟩ := HG.out o ho
          rw [hO.1] at ht
          obtain ⟨h1, h2, h3, h4⟩ := upt_post hO.2.1 ht
          obtain ⟨h5, h6⟩ := hl o.ps h3 h4 ht.1.pe h2
          refine ⟨h5, ?_⟩
          rw [h1, h6, hu]
          rfl
        clear hO hD hP
        go_upto_region 17 with fail
        obtain ⟨W, hW, hz0, hk1, hb⟩ := two_blocks w #[.int .u64 0, .int .i64 0, .string ⟨#[]⟩, .string ⟨#[]⟩, .string ⟨#[]⟩, .int .i64 0, .int .u64 0, .slice none 0 0, .slice none 0 0] #[.int .u64 0, .int .i64 9, .string ⟨#[]⟩, .string ⟨#[]⟩, .string ⟨#[]⟩, .int .i64 0, .int .u64 (u : Int), .slice none 0 0, .slice none 0 0]
        rw [← hW]
        clear hW
        go_wp2_with fail
        refine (HS.out _).mono ?_
        rintro e W1 ⟨l, v, b, rfl, hown, hl, hpo, hb1, hps⟩
        have hsz : w.heap.size + 1 < W.heap.size := lt_of_at hk1
        have hb2 := hb.trans (hb1.mono hb.size)
        replace hz0 : W1.heap[w.heap.size]? = some (.cells #[.int .u64 0, .int .i64 0, .string ⟨#[]⟩, .string ⟨#[]⟩, .string ⟨#[]⟩, .int .i64 0, .int .u64 0, .slice none 0 0, .slice none 0 0] 26 (0, 0)) := (hb1.block _ (by omega)).trans hz0
        replace hk1 : W1.heap[w.heap.size + 1]? = some (.cells #[.int .u64 0, .int .i64 9, .string ⟨#[]⟩, .string ⟨#[]⟩, .string ⟨#[]⟩, .int .i64 0, .int .u64 (u : Int), .slice none 0 0, .slice none 0 0] 26 (0, 0)) := (hb1.block _ (by omega)).trans hk1
        have HN2 := Lib.hid (HN.out l b hps)
        have HO : Hid (b = true → OpnO 0 (opCo u l)) := fun _ => opn_co HU.out hl hpo
        have hx : RowX (w.heap.size + 1) W1 v (icells l) := RowX.own hown (by omega)
        obtain ⟨va, vc, hve⟩ := (RowIn.own hown).form
        rw [show (icells l).length = l.length by simp [icells]] at hve
        subst hve
        clear hb1 HN hown hl hpo hps
        have k0 : W1.cell? ⟨w.heap.size + 1, 0, none⟩ = some (.int .u64 0) := cell_of_row _ _ 0 _ _ _ hk1
        have k1 : W1.cell? ⟨w.heap.size + 1, 1, none⟩ = some (.int .i64 9) := cell_of_row _ _ 1 _ _ _ hk1
        have k2 : W1.cell? ⟨w.heap.size + 1, 2, none⟩ = some (.string ⟨#[]⟩) := cell_of_row _ _ 2 _ _ _ hk1
        have k3 : W1.cell? ⟨w.heap.size + 1, 3, none⟩ = some (.string ⟨#[]⟩) := cell_of_row _ _ 3 _ _ _ hk1
        have k4 : W1.cell? ⟨w.heap.size + 1, 4, none⟩ = some (.string ⟨#[]⟩) := cell_of_row _ _ 4 _ _ _ hk1
        have k5 : W1.cell? ⟨w.heap.size + 1, 5, none⟩ = some (.int .i64 0) := cell_of_row _ _ 5 _ _ _ hk1
        have k6 : W1.cell? ⟨w.heap.size + 1, 6, none⟩ = some (.int .u64 (u : Int)) := cell_of_row _ _ 6 _ _ _ hk1
        have k7 : W1.cell? ⟨w.heap.size + 1, 7, none⟩ = some (.slice none 0 0) := cell_of_row _ _ 7 _ _ _ hk1
        have k8 : W1.cell? ⟨w.heap.size + 1, 8, none⟩ = some (.slice none 0 0) := cell_of_row _ _ 8 _ _ _ hk1
        have kf : ∀ j, W1.frozen? ⟨w.heap.size + 1, j, none⟩ = false := fun j => frozen_of_row W1 (w.heap.size + 1) j _ _ hk1
        go_upto_region 18 with fail
        clear k0 k1 k2 k3 k4 k5 k6 k7 k8 kf
        have hk2 := heap_setCell_same W1 (w.heap.size + 1) 7 _ _ (.slice va l.length vc) hk1
        have hz2 := (Below.heap_setCell W1 ⟨w.heap.size + 1, 7, none⟩ (.slice va l.length vc) w.heap.size (by simp)).trans hz0
        have hb3 := hb2.setCell (p := ⟨w.heap.size + 1, 7, none⟩) (Nat.le_succ _) (.slice va l.length vc)
        have hx2 := hx.set (Nat.le_refl _) 7 (.slice va l.length vc)
        clear hk1 hz0 hx
        generalize W1.setCell ⟨w.heap.size + 1, 7, none⟩ (.slice va l.length vc) = W2 at *
        have hz0 := hz2
        have hk1 : W2.heap[w.heap.size + 1]? = some (.cells #[.int .u64 0, .int .i64 9, .string ⟨#[]⟩, .string ⟨#[]⟩, .string ⟨#[]⟩, .int .i64 0, .int .u64 (u : Int), .slice va l.length vc, .slice none 0 0] 26 (0, 0)) := hk2
        clear hz2 hk2
        have HX2 := Lib.hid hx2
        clear hx2
        have z0 : W2.cell? ⟨w.heap.size, 0, none⟩ = some (.int .u64 0) := cell_of_row _ _ 0 _ _ _ hz0
        have z1 : W2.cell? ⟨w.heap.size, 1, none⟩ = some (.int .i64 0) := cell_of_row _ _ 1 _ _ _ hz0
        have z2 : W2.cell? ⟨w.heap.size, 2, none⟩ = some (.string ⟨#[]⟩) := cell_of_row _ _ 2 _ _ _ hz0
        have z3 : W2.cell? ⟨w.heap.size, 3, none⟩ = some (.string ⟨#[]⟩) := cell_of_row _ _ 3 _ _ _ hz0
        have z4 : W2.cell? ⟨w.heap.size, 4, none⟩ = some (.string ⟨#[]⟩) := cell_of_row _ _ 4 _ _ _ hz0
        have z5 : W2.cell? ⟨w.heap.size, 5, none⟩ = some (.int .i64 0) := cell_of_row _ _ 5 _ _ _ hz0
        have z6 : W2.cell? ⟨w.heap.size, 6, none⟩ = some (.int .u64 0) := cell_of_row _ _ 6 _ _ _ hz0
        have z7 : W2.cell? ⟨w.heap.size, 7, none⟩ = some (.slice none 0 0) := cell_of_row _ _ 7 _ _ _ hz0
        have z8 : W2.cell? ⟨w.heap.size, 8, none⟩ = some (.slice none 0 0) := cell_of_row _ _ 8 _ _ _ hz0
        have zf : ∀ j, W2.frozen? ⟨w.heap.size, j, none⟩ = false := fun j => frozen_of_row W2 (w.heap.size) j _ _ hz0
        have k0 : W2.cell? ⟨w.heap.size + 1, 0, none⟩ = some (.int .u64 0) := cell_of_row _ _ 0 _ _ _ hk1
        have k1 : W2.cell? ⟨w.heap.size + 1, 1, none⟩ = some (.int .i64 9) := cell_of_row _ _ 1 _ _ _ hk1
        have k2 : W2.cell? ⟨w.heap.size + 1, 2, none⟩ = some (.string ⟨#[]⟩) := cell_of_row _ _ 2 _ _ _ hk1
        have k3 : W2.cell? ⟨w.heap.size + 1, 3, none⟩ = some (.string ⟨#[]⟩) := cell_of_row _ _ 3 _ _ _ hk1
        have k4 : W2.cell? ⟨w.heap.size + 1, 4, none⟩ = some (.string ⟨#[]⟩) := cell_of_row _ _ 4 _ _ _ hk1
        have k5 : W2.cell? ⟨w.heap.size + 1, 5, none⟩ = some (.int .i64 0) := cell_of_row _ _ 5 _ _ _ hk1
        have k6 : W2.cell? ⟨w.heap.size + 1, 6, none⟩ = some (.int .u64 (u : Int)) := cell_of_row _ _ 6 _ _ _ hk1
        have k7 : W2.cell? ⟨w.heap.size + 1, 7, none⟩ = some (.slice va l.length vc) := cell_of_row _ _ 7 _ _ _ hk1
        have k8 : W2.cell? ⟨w.heap.size + 1, 8, none⟩ = some (.slice none 0 0) := cell_of_row _ _ 8 _ _ _ hk1
        have kf : ∀ j, W2.frozen? ⟨w.heap.size + 1, j, none⟩ = false := fun j => frozen_of_row W2 (w.heap.size + 1) j _ _ hk1
        go_wp2
        exact tgt_ret (W := setOp W2 w.heap.size (opCo u l) (.slice va l.length vc) (.slice none 0 0)) Tryz.results112 rfl rfl (setOp_same hz0 rfl) ⟨opCo u l, .slice va l.length vc, b, rfl, (HX2.out.setOp (Nat.le_succ _) _ _ _).z (by omega), rfl, HO.out, setOp_low hb3 (Nat.le_refl _) _ _ _, HN2.out⟩
      have HN : Hid (∀ o, ¬ UplG how s o) := fun o ho => upt_else HD.out HP.out hO o (HG.out o ho).2
      obtain ⟨W, hW, hz0, hk1, hb⟩ := two_blocks w #[.int .u64 0, .int .i64 0, .string ⟨#[]⟩, .string ⟨#[]⟩, .string ⟨#[]⟩, .int .i64 0, .int .u64 0, .slice none 0 0, .slice none 0 0] #[.int .u64 0, .int .i64 0, .string ⟨#[]⟩, .string ⟨#[]⟩, .string ⟨#[]⟩, .int .i64 0, .int .u64 (u : Int), .slice none 0 0, .slice none 0 0]
      rw [← hW]
      clear hW hk1
      have z0 : W.cell? ⟨w.heap.size, 0, none⟩ = some (.int .u64 0) := cell_of_row _ _ 0 _ _ _ hz0
      have z1 : W.cell? ⟨w.heap.size, 1, none⟩ = some (.int .i64 0) := cell_of_row _ _ 1 _ _ _ hz0
      have z2 : W.cell? ⟨w.heap.size, 2, none⟩ = some (.string ⟨#[]⟩) := cell_of_row _ _ 2 _ _ _ hz0
      have z3 : W.cell? ⟨w.heap.size, 3, none⟩ = some (.string ⟨#[]⟩) := cell_of_row _ _ 3 _ _ _ hz0
      have z4 : W.cell? ⟨w.heap.size, 4, none⟩ = some (.string ⟨#[]⟩) := cell_of_row _ _ 4 _ _ _ hz0
      have z5 : W.cell? ⟨w.heap.size, 5, none⟩ = some (.int .i64 0) := cell_of_row _ _ 5 _ _ _ hz0
      have z6 : W.cell? ⟨w.heap.size, 6, none⟩ = some (.int .u64 0) := cell_of_row _ _ 6 _ _ _ hz0
      have z7 : W.cell? ⟨w.heap.size, 7, none⟩ = some (.slice none 0 0) := cell_of_row _ _ 7 _ _ _ hz0
      have z8 : W.cell? ⟨w.heap.size, 8, none⟩ = some (.slice none 0 0) := cell_of_row _ _ 8 _ _ _ hz0
      have zf : ∀ j, W.frozen? ⟨w.heap.size, j, none⟩ = false := fun j => frozen_of_row W (w.heap.size) j _ _ hz0
      by_cases h1 : how = bDELETE
      · have q1 : (how.toList == [68, 69, 76, 69, 84, 69]) = true := by rw [q_of]; exact decide_eq_true h1
        have q2 : (T.toList == ([] : List UInt8)) = false := by rw [q_of]; exact decide_eq_false fun e => hD ⟨h1, by rw [e]; rfl⟩
        have q3 : (how.toList == [80, 85, 84]) = false := by rw [q_of, h1]; rfl
        have q4 : (how.toList == [80, 79, 83, 84]) = false := by rw [q_of, h1]; rfl
        clear h1 hD hP hO
        go_wp2
        exact tgt_ret (W := setOp W w.heap.size zeroO (.slice none 0 0) (.slice none 0 0)) Tryz.results112 rfl rfl (setOp_same hz0 rfl) (tgt_no (setOp_low hb (Nat.le_refl _) _ _ _) HN.out)
      have q1 : (how.toList == [68, 69, 76, 69, 84, 69]) = false := by rw [q_of]; exact decide_eq_false h1
      by_cases h2 : how = bPUT
      · have q2 : (how.toList == [80, 85, 84]) = true := by rw [q_of]; exact decide_eq_true h2
        have q4 : (how.toList == [80, 79, 83, 84]) = false := by rw [q_of, h2]; rfl
        by_cases h6 : 6 < T.size
        · have q5 : (6 : Int) < (T.size : Int) := by omega
          have q6 : (6 : Int) ≤ (T.size : Int) := by omega
          have q7 : 6 ≤ T.size := by omega
          have q8 : ((T.extract 0 6).toList == [38, 112, 97, 114, 116, 61]) = false := by rw [q_of]; exact decide_eq_false fun e => hP ⟨h2, h6, e⟩
          clear h1 h2 hD hP hO
          go_wp2
          exact tgt_ret (W := setOp W w.heap.size zeroO (.slice none 0 0) (.slice none 0 0)) Tryz.results112 rfl rfl (setOp_same hz0 rfl) (tgt_no (setOp_low hb (Nat.le_refl _) _ _ _) HN.out)
        · have q5 : ¬ (6 : Int) < (T.size : Int) := by omega
          clear h1 h2 hD hP hO
          go_wp2
          exact tgt_ret (W := setOp W w.heap.size zeroO (.slice none 0 0) (.slice none 0 0)) Tryz.results112 rfl rfl (setOp_same hz0 rfl) (tgt_no (setOp_low hb (Nat.le_refl _) _ _ _) HN.out)
      have q2 : (how.toList == [80, 85, 84]) = false := by rw [q_of]; exact decide_eq_false h2
      by_cases h3 : how = bPOST
      · have q4 : (how.toList == [80, 79, 83, 84]) = true := by rw [q_of]; exact decide_eq_true h3
        by_cases h6 : 7 < T.size
        · have q5 : (7 : Int) < (T.size : Int) := by omega
          have q6 : (7 : Int) ≤ (T.size : Int) := by omega
          have q7 : 7 ≤ T.size := by omega
          have q8 : ((T.extract 0 7).toList == [38, 112, 97, 114, 116, 115, 61]) = false := by rw [q_of]; exact decide_eq_false fun e => hO ⟨h3, h6, e⟩
          clear h1 h2 h3 hD hP hO
          go_wp2
          exact tgt_ret (W := setOp W w.heap.size zeroO (.slice none 0 0) (.slice none 0 0)) Tryz.results112 rfl rfl (setOp_same hz0 rfl) (tgt_no (setOp_low hb (Nat.le_refl _) _ _ _) HN.out)
        · have q5 : ¬ (7 : Int) < (T.size : Int) := by omega
          clear h1 h2 h3 hD hP hO
          go_wp2
          exact tgt_ret (W := setOp W w.heap.size zeroO (.slice none 0 0) (.slice none 0 0)) Tryz.results112 rfl rfl (setOp_same hz0 rfl) (tgt_no (setOp_low hb (Nat.le_refl _) _ _ _) HN.out)
      have q4 : (how.toList == [80, 79, 83, 84]) = false := by rw [q_of]; exact decide_eq_false h3
      clear h1 h2 h3 hD hP hO
      go_wp2
      exact tgt_ret (W := setOp W w.heap.size zeroO (.slice none 0 0) (.slice none 0 0)) Tryz.results112 rfl rfl (setOp_same hz0 rfl) (tgt_no (setOp_low hb (Nat.le_refl _) _ _ _) HN.out)
end Go.Proofs.YtnlooggibopknaaGreatDoor
