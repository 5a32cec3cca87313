/-
  peatbankkit: SameStat, SameTale, KeptStat, KeptTale, walked.
-/
import Derived.Test.YtfehgpjnlkgekaaGreatDoorLnTale
namespace Go.Proofs.YtfehgpjnlkgekaaGreatDoor
open Go.RowKit
set_option linter.unusedVariables false
set_option linter.unusedSimpArgs false

structure StatS where
  v0 : Int
  v1 : Int
  v2 : Int
  v3 : Int
  v4 : Int
  v5 : Int
  v6 : Int
  v7 : Int
  v8 : Int
  sl : List Int
def StatS.vs (x : StatS) (S : Value) : Array Value := statV x.v0 x.v1 x.v2 x.v3 x.v4 x.v5 x.v6 x.v7 x.v8 S
def geoB (x y : StatS) : Bool := x.v0 == y.v0 && (x.v1 == y.v1 && (x.v2 == y.v2 && (x.v3 == y.v3 && (x.v4 == y.v4 && true))))
def eqStat (x y : StatS) : Bool := geoB x y && (decide (x.v5 = y.v5) && (decide (x.v6 = y.v6) && (decide (x.v7 = y.v7) && (decide (x.sl = y.sl) && decide (x.v8 = y.v8)))))
theorem eqStat_iff (x y : StatS) : eqStat x y = true ↔ x = y := by
  unfold eqStat geoB
  simp only [Bool.and_eq_true, decide_eq_true_eq, beq_iff_eq]
  constructor
  · rintro ⟨⟨h0, h1, h2, h3, h4, _⟩, h5, h6, h7, h8, h9⟩
    cases x; cases y
    simp_all
  · rintro rfl
    simp
theorem geo_eql (a0 a1 a2 a3 a4 b0 b1 b2 b3 b4 : Int) (w : World) : (binOp BinOp.eql 42 (.agg #[.int .i64 a0, .int .i64 a1, .int .i64 a2, .int .i64 a3, .int .i64 a4]) (.agg #[.int .i64 b0, .int .i64 b1, .int .i64 b2, .int .i64 b3, .int .i64 b4])).run Tryz.prog w = .ok (.bool (a0 == b0 && (a1 == b1 && (a2 == b2 && (a3 == b3 && (a4 == b4 && true)))))) w := by
  have hf : (Tryz.prog.fieldsOf 42).toList.map (fun f => (f.name, f.type, f.offset)) = [("Virtual", 3, 0), ("Segments", 3, 1), ("Segment", 3, 2), ("Units", 3, 3), ("Journal", 3, 4)] := by kernel_rfl
  have hp : ∀ (cs : Array Value) (off : Nat) (v : Value), cs[off]? = some v → (part 3 cs off).run Tryz.prog w = .ok v w := fun cs off v h => by
    simp [part, isAgg, run_underlying Tryz.underlying3, h]
  have e : ∀ x y, (Op.equalIn 9999 3 (.int .i64 x) (.int .i64 y)).run Tryz.prog w = .ok (x == y) w := fun x y => run_equalIn_int w 9998 3 .i64 .i64 x y Tryz.underlying3
  have step : ∀ (f : Field) (fs : List Field) (xs ys : Array Value) (x y : Int) (r : Bool), f.name ≠ "_" → f.type = 3 → xs[f.offset]? = some (.int .i64 x) → ys[f.offset]? = some (.int .i64 y) → (Op.eqFields 9999 xs ys fs).run Tryz.prog w = .ok r w →
      (Op.eqFields 9999 xs ys (f :: fs)).run Tryz.prog w = .ok (x == y && r) w := fun f fs xs ys x y r h1 h2 h3 h4 h5 => by
    simp only [Op.eqFields, if_pos h1, h2, Sem.run_bind, hp _ _ _ h3, hp _ _ _ h4, Result.andThen_ok, e]
    cases x == y
    · simp
    · simpa using h5
  have hq : (Tryz.prog.fieldsOf 42).toList = [{ name := "Virtual", type := 3, offset := 0, embedded := false, tag := "", pkgPath := "", byteOffset := 0 }, { name := "Segments", type := 3, offset := 1, embedded := false, tag := "", pkgPath := "", byteOffset := 8 }, { name := "Segment", type := 3, offset := 2, embedded := false, tag := "", pkgPath := "", byteOffset := 16 }, { name := "Units", type := 3, offset := 3, embedded := false, tag := "", pkgPath := "", byteOffset := 24 }, { name := "Journal", type := 3, offset := 4, embedded := false, tag := "", pkgPath := "", byteOffset := 32 }] := by kernel_rfl
  have eq : (binOp BinOp.eql 42 (.agg #[.int .i64 a0, .int .i64 a1, .int .i64 a2, .int .i64 a3, .int .i64 a4]) (.agg #[.int .i64 b0, .int .i64 b1, .int .i64 b2, .int .i64 b3, .int .i64 b4])).run Tryz.prog w = ((Op.equalIn 10000 42 (.agg #[.int .i64 a0, .int .i64 a1, .int .i64 a2, .int .i64 a3, .int .i64 a4]) (.agg #[.int .i64 b0, .int .i64 b1, .int .i64 b2, .int .i64 b3, .int .i64 b4])).run Tryz.prog w).andThen fun b w' => .ok (.bool b) w' := run_eql_struct _ _ _ _
  rw [eq, run_equalIn_agg w 9999 _ _ _ (by kernel_rfl) (by kernel_rfl), hq]
  rw [step _ _ _ _ a0 b0 _ (by decide) rfl rfl rfl (step _ _ _ _ a1 b1 _ (by decide) rfl rfl rfl (step _ _ _ _ a2 b2 _ (by decide) rfl rfl rfl (step _ _ _ _ a3 b3 _ (by decide) rfl rfl rfl (step _ _ _ _ a4 b4 true (by decide) rfl rfl rfl rfl))))]
  rfl
def StatRd (w : World) (v : Value) (x : StatS) : Prop := ∃ A c, v = .agg (x.vs (.slice A x.sl.length c)) ∧ RdI .i64 w A x.sl.length x.sl
set_option maxHeartbeats 3200000 in
theorem same_stat (x y : StatS) (vx vy : Value) (w : World) (hx : StatRd w vx x) (hy : StatRd w vy y) (bx : x.sl.length ≤ 1000000000) (b2 : y.sl.length ≤ 1000000000) :
    Calls Tryz.prog 105 #[vx, vy] w fun e w' => e = .returned (.bool (eqStat x y)) ∧ Below w.heap.size w w' := by
  obtain ⟨A, c, rfl, ha⟩ := hx
  obtain ⟨B, d, rfl, hb⟩ := hy
  have HA := Lib.hid ha
  have HB := Lib.hid hb
  clear ha hb
  have hge := geo_eql x.v0 x.v1 x.v2 x.v3 x.v4 y.v0 y.v1 y.v2 y.v3 y.v4
  rw [show (x.v0 == y.v0 && (x.v1 == y.v1 && (x.v2 == y.v2 && (x.v3 == y.v3 && (x.v4 == y.v4 && true))))) = geoB x y from rfl] at hge
  unfold StatS.vs statV
  cases h0 : geoB x y with
  | false =>
    rw [h0] at hge
    have HE := Lib.hid (show eqStat x y = false by unfold eqStat; rw [h0]; rfl)
    clear h0
    go_enter Tryz.func105, Tryz.ntmps105
    go_wp2
    go_ret
    exact ⟨by rw [HE.out]; rfl, (((Below.refl _ _).alloc (Nat.le_refl _) _).alloc (by simp) _)⟩
  | true =>
    rw [h0] at hge
    by_cases h1 : x.v5 = y.v5
    · have e1 : (x.v5 == y.v5) = true := by simpa using h1
      by_cases h2 : x.v6 = y.v6
      · have e2 : (x.v6 == y.v6) = true := by simpa using h2
        by_cases h3 : x.v7 = y.v7
        · have e3 : (x.v7 == y.v7) = true := by simpa using h3
          have HE := Lib.hid (show eqStat x y = (decide (x.sl = y.sl) && decide (x.v8 = y.v8)) by unfold eqStat; rw [h0, decide_eq_true h1, decide_eq_true h2, decide_eq_true h3]; simp)
          clear h0 h1 h2 h3
          go_enter Tryz.func105, Tryz.ntmps105
          go_wp2_with fail
          obtain ⟨wa, hwa⟩ : ∃ wa, wa = (w.alloc (Obj.cells (x.vs (.slice A x.sl.length c)) 45)).alloc (Obj.cells (y.vs (.slice B y.sl.length d)) 45) := ⟨_, rfl⟩
          have K1 := Lib.hid (show Blk wa w.heap.size 45 (x.vs (.slice A x.sl.length c)) by rw [hwa]; exact (Blk.made _ _ _).alloc _)
          have K2 := Lib.hid (show Blk wa (w.heap.size + 1) 45 (y.vs (.slice B y.sl.length d)) by rw [hwa]; exact Blk.made_at _ _ _ (by simp))
          have La := Lib.hid (show Below w.heap.size w wa by rw [hwa]; exact (((Below.refl _ _).alloc (Nat.le_refl _) _).alloc (by simp) _))
          unfold StatS.vs statV at hwa K1 K2
          rw [← hwa]
          clear hwa
          refine (same_ints x.sl y.sl A B x.sl.length y.sl.length c d wa (HA.out.below La.out) (HB.out.below La.out) (by omega) (by omega)).mono ?_
          rintro ev wb ⟨rfl, hbb⟩
          have k15 := (K1.out.below hbb K1.out.lt).cell (i := 9) rfl
          have k25 := (K2.out.below hbb K2.out.lt).cell (i := 9) rfl
          have Lb := Lib.hid (below_chain La.out hbb)
          clear hbb
          cases h5 : decide (x.sl = y.sl) with
          | false =>
            rw [h5] at HE
            clear h5
            go_wp2
            go_ret
            exact ⟨by rw [HE.out]; rfl, Lb.out⟩
          | true =>
            rw [h5] at HE
            clear h5
            have e8 : (x.v8 == y.v8) = decide (x.v8 = y.v8) := by
              by_cases h : x.v8 = y.v8
              · simp [h]
              · simp [h]
            generalize decide (x.v8 = y.v8) = q at *
            go_wp2
            go_ret
            exact ⟨by rw [HE.out]; rfl, Lb.out⟩
        · have e3 : (x.v7 == y.v7) = false := by simpa using h3
          have HE := Lib.hid (show eqStat x y = false by unfold eqStat; rw [decide_eq_false h3]; simp)
          clear h0 h1 h2 h3
          go_enter Tryz.func105, Tryz.ntmps105
          go_wp2
          go_ret
          exact ⟨by rw [HE.out]; rfl, (((Below.refl _ _).alloc (Nat.le_refl _) _).alloc (by simp) _)⟩
      · have e2 : (x.v6 == y.v6) = false := by simpa using h2
        have HE := Lib.hid (show eqStat x y = false by unfold eqStat; rw [decide_eq_false h2]; simp)
        clear h0 h1 h2
        go_enter Tryz.func105, Tryz.ntmps105
        go_wp2
        go_ret
        exact ⟨by rw [HE.out]; rfl, (((Below.refl _ _).alloc (Nat.le_refl _) _).alloc (by simp) _)⟩
    · have e1 : (x.v5 == y.v5) = false := by simpa using h1
      have HE := Lib.hid (show eqStat x y = false by unfold eqStat; rw [decide_eq_false h1]; simp)
      clear h0 h1
      go_enter Tryz.func105, Tryz.ntmps105
      go_wp2
      go_ret
      exact ⟨by rw [HE.out]; rfl, (((Below.refl _ _).alloc (Nat.le_refl _) _).alloc (by simp) _)⟩
structure TaleS where
  e : Int
  sn : Int
  bs : List Int
  st : StatS
def TaleS.vs (x : TaleS) (B S : Value) : Array Value := taleV x.e x.sn B x.st.v0 x.st.v1 x.st.v2 x.st.v3 x.st.v4 x.st.v5 x.st.v6 x.st.v7 x.st.v8 S
def eqTale (x y : TaleS) : Bool := decide (x.e = y.e) && (decide (x.bs = y.bs) && (decide (x.sn = y.sn) && eqStat x.st y.st))
theorem eqTale_iff (x y : TaleS) : eqTale x y = true ↔ x = y := by
  unfold eqTale
  simp only [Bool.and_eq_true, decide_eq_true_eq, eqStat_iff]
  constructor
  · rintro ⟨h0, h1, h2, h3⟩
    cases x; cases y
    simp_all
  · rintro rfl
    simp
def TaleRd (w : World) (v : Value) (x : TaleS) : Prop := ∃ A c A' c', v = .agg (x.vs (.slice A x.bs.length c) (.slice A' x.st.sl.length c')) ∧ RdI .u8 w A x.bs.length x.bs ∧ RdI .i64 w A' x.st.sl.length x.st.sl
theorem TaleRd.below {w w' : World} {v : Value} {x : TaleS} (h : TaleRd w v x) (hb : Below w.heap.size w w') : TaleRd w' v x := by
  obtain ⟨A, c, A', c', e, h1, h2⟩ := h
  exact ⟨A, c, A', c', e, h1.below hb, h2.below hb⟩
set_option maxHeartbeats 3200000 in
theorem same_tale (x y : TaleS) (vx vy : Value) (w : World) (hx : TaleRd w vx x) (hy : TaleRd w vy y) (bx : x.st.sl.length ≤ 1000000000) (b2 : y.st.sl.length ≤ 1000000000) (bx' : x.bs.length ≤ 1000000000) (b2' : y.bs.length ≤ 1000000000) :
    Calls Tryz.prog 75 #[vx, vy] w fun e w' => e = .returned (.bool (eqTale x y)) ∧ Below w.heap.size w w' := by
  obtain ⟨A, c, A', c', rfl, ha, ha'⟩ := hx
  obtain ⟨B, d, B', d', rfl, hb, hb'⟩ := hy
  have HA := Lib.hid ha
  have HB := Lib.hid hb
  have HA' := Lib.hid ha'
  have HB' := Lib.hid hb'
  clear ha hb ha' hb'
  unfold TaleS.vs taleV
  by_cases h1 : x.e = y.e
  · have e1 : (x.e == y.e) = true := by simpa using h1
    have HE := Lib.hid (show eqTale x y = (decide (x.bs = y.bs) && (decide (x.sn = y.sn) && eqStat x.st y.st)) by unfold eqTale; rw [decide_eq_true h1]; simp)
    clear h1
    go_enter Tryz.func75, Tryz.ntmps75
    go_wp2_with fail
    obtain ⟨wa, hwa⟩ : ∃ wa, wa = (w.alloc (Obj.cells (x.vs (.slice A x.bs.length c) (.slice A' x.st.sl.length c')) 47)).alloc (Obj.cells (y.vs (.slice B y.bs.length d) (.slice B' y.st.sl.length d')) 47) := ⟨_, rfl⟩
    have K1 := Lib.hid (show Blk wa w.heap.size 47 (x.vs (.slice A x.bs.length c) (.slice A' x.st.sl.length c')) by rw [hwa]; exact (Blk.made _ _ _).alloc _)
    have K2 := Lib.hid (show Blk wa (w.heap.size + 1) 47 (y.vs (.slice B y.bs.length d) (.slice B' y.st.sl.length d')) by rw [hwa]; exact Blk.made_at _ _ _ (by simp))
    have La := Lib.hid (show Below w.heap.size w wa by rw [hwa]; exact (((Below.refl _ _).alloc (Nat.le_refl _) _).alloc (by simp) _))
    unfold TaleS.vs taleV at hwa K1 K2
    rw [← hwa]
    clear hwa
    refine (same_bytes x.bs y.bs A B x.bs.length y.bs.length c d wa (HA.out.below La.out) (HB.out.below La.out) (by omega) (by omega)).mono ?_
    rintro ev wb ⟨rfl, hbb⟩
    have p1 := (K1.out.below hbb K1.out.lt).cell (i := 1) rfl
    have p2 := (K1.out.below hbb K1.out.lt).cell (i := 2) rfl
    have p3 := (K1.out.below hbb K1.out.lt).cell (i := 3) rfl
    have p4 := (K1.out.below hbb K1.out.lt).cell (i := 4) rfl
    have p5 := (K1.out.below hbb K1.out.lt).cell (i := 5) rfl
    have p6 := (K1.out.below hbb K1.out.lt).cell (i := 6) rfl
    have p7 := (K1.out.below hbb K1.out.lt).cell (i := 7) rfl
    have p8 := (K1.out.below hbb K1.out.lt).cell (i := 8) rfl
    have p9 := (K1.out.below hbb K1.out.lt).cell (i := 9) rfl
    have p10 := (K1.out.below hbb K1.out.lt).cell (i := 10) rfl
    have p11 := (K1.out.below hbb K1.out.lt).cell (i := 11) rfl
    have p12 := (K1.out.below hbb K1.out.lt).cell (i := 12) rfl
    have q1 := (K2.out.below hbb K2.out.lt).cell (i := 1) rfl
    have q2 := (K2.out.below hbb K2.out.lt).cell (i := 2) rfl
    have q3 := (K2.out.below hbb K2.out.lt).cell (i := 3) rfl
    have q4 := (K2.out.below hbb K2.out.lt).cell (i := 4) rfl
    have q5 := (K2.out.below hbb K2.out.lt).cell (i := 5) rfl
    have q6 := (K2.out.below hbb K2.out.lt).cell (i := 6) rfl
    have q7 := (K2.out.below hbb K2.out.lt).cell (i := 7) rfl
    have q8 := (K2.out.below hbb K2.out.lt).cell (i := 8) rfl
    have q9 := (K2.out.below hbb K2.out.lt).cell (i := 9) rfl
    have q10 := (K2.out.below hbb K2.out.lt).cell (i := 10) rfl
    have q11 := (K2.out.below hbb K2.out.lt).cell (i := 11) rfl
    have q12 := (K2.out.below hbb K2.out.lt).cell (i := 12) rfl
    have Lb := Lib.hid (below_chain La.out hbb)
    clear hbb K1 K2
    cases h5 : decide (x.bs = y.bs) with
    | false =>
      rw [h5] at HE
      clear h5
      go_wp2
      go_ret
      exact ⟨by rw [HE.out]; rfl, Lb.out⟩
    | true =>
      rw [h5] at HE
      clear h5
      by_cases h2 : x.sn = y.sn
      · have e2 : (x.sn == y.sn) = true := by simpa using h2
        rw [decide_eq_true h2] at HE
        clear h2
        go_wp2_with fail
        refine (same_stat x.st y.st _ _ wb ⟨A', c', rfl, HA'.out.below Lb.out⟩ ⟨B', d', rfl, HB'.out.below Lb.out⟩ bx b2).mono ?_
        rintro ev wc ⟨rfl, hbc⟩
        have Lc := Lib.hid (below_chain Lb.out hbc)
        clear hbc
        generalize eqStat x.st y.st = q at *
        go_wp2
        go_ret
        exact ⟨by rw [HE.out]; rfl, Lc.out⟩
      · have e2 : (x.sn == y.sn) = false := by simpa using h2
        rw [decide_eq_false h2] at HE
        clear h2
        go_wp2
        go_ret
        exact ⟨by rw [HE.out]; rfl, Lb.out⟩
  · have e1 : (x.e == y.e) = false := by simpa using h1
    have HE := Lib.hid (show eqTale x y = false by unfold eqTale; rw [decide_eq_false h1]; simp)
    clear h1
    go_enter Tryz.func75, Tryz.ntmps75
    go_wp2
    go_ret
    exact ⟨by rw [HE.out]; rfl, (((Below.refl _ _).alloc (Nat.le_refl _) _).alloc (by simp) _)⟩
theorem rd_lent {k : IntKind} {w : World} {A : Option Addr} {n : Nat} {zs ms : List Int} (h : RdI k w A (n + 12) (zs ++ ms)) (hl : zs.length = n) : RdI k w A n zs := by
  have := rd_take h n (by omega)
  rwa [← hl, List.take_left, hl] at this
theorem eqStat_self (x : StatS) : eqStat x x = true := (eqStat_iff x x).2 rfl
theorem eqTale_self (x : TaleS) : eqTale x x = true := (eqTale_iff x x).2 rfl
set_option maxHeartbeats 1600000 in
theorem kept_stat (x : StatS) (vy : Value) (g c base : Nat) (w : World) (ho : w.ownsRow base 3 1 (.slice (some ⟨g, 0, none⟩) (x.sl.length + 12) c) (x.sl.length + 12) ((x.sl ++ marksTo 12).map (Value.int .i64))) (hc : x.sl.length + 12 ≤ c) (hy : StatRd w vy x) (bx : x.sl.length ≤ 1000000000) :
    Calls Tryz.prog 77 #[.agg (x.vs (.slice (some ⟨g, 0, none⟩) x.sl.length c)), vy] w fun e w' => e = .returned (.bool true) ∧ Below w.heap.size w w' := by
  have HX := Lib.hid (show StatRd w (.agg (x.vs (.slice (some ⟨g, 0, none⟩) x.sl.length c))) x from ⟨_, _, rfl, rd_lent (RdI.of_own ho) rfl⟩)
  obtain ⟨B, d, rfl, hb⟩ := hy
  have HB := Lib.hid hb
  have HO := Lib.hid ho
  clear hb ho
  unfold StatS.vs statV
  go_enter Tryz.func77, Tryz.ntmps77
  go_wp2_with fail
  obtain ⟨wa, hwa⟩ : ∃ wa, wa = (w.alloc (Obj.cells (x.vs (.slice (some ⟨g, 0, none⟩) x.sl.length c)) 45)).alloc (Obj.cells (x.vs (.slice B x.sl.length d)) 45) := ⟨_, rfl⟩
  have K1 := Lib.hid (show Blk wa w.heap.size 45 (x.vs (.slice (some ⟨g, 0, none⟩) x.sl.length c)) by rw [hwa]; exact (Blk.made _ _ _).alloc _)
  have K2 := Lib.hid (show Blk wa (w.heap.size + 1) 45 (x.vs (.slice B x.sl.length d)) by rw [hwa]; exact Blk.made_at _ _ _ (by simp))
  have La := Lib.hid (show Below w.heap.size w wa by rw [hwa]; exact (((Below.refl _ _).alloc (Nat.le_refl _) _).alloc (by simp) _))
  unfold StatS.vs statV at hwa K1 K2
  rw [← hwa]
  clear hwa
  have hx2 : StatRd wa (.agg (x.vs (.slice (some ⟨g, 0, none⟩) x.sl.length c))) x := by
    obtain ⟨A, e, h1, h2⟩ := HX.out
    exact ⟨A, e, h1, h2.below La.out⟩
  refine (same_stat x x _ _ wa hx2 ⟨B, d, rfl, HB.out.below La.out⟩ bx bx).mono ?_
  rintro ev wb ⟨rfl, hbb⟩
  rw [eqStat_self]
  have p8 := (K1.out.below hbb K1.out.lt).cell (i := 8) rfl
  have q8 := (K2.out.below hbb K2.out.lt).cell (i := 8) rfl
  have Lb := Lib.hid (below_chain La.out hbb)
  clear hbb hx2
  go_wp2_with fail
  refine (kept_ints x.sl B g x.sl.length c d base wb (HB.out.below Lb.out) (own_lo8 HO.out Lb.out) hc bx).mono ?_
  rintro ev wc ⟨rfl, hbc⟩
  have Lc := Lib.hid (below_chain Lb.out hbc)
  clear hbc
  go_wp2
  go_ret
  exact ⟨rfl, Lc.out⟩
set_option maxHeartbeats 1600000 in
theorem kept_tale (x : TaleS) (vy : Value) (g c g' c' base : Nat) (w : World) (ho : w.ownsRow base 5 1 (.slice (some ⟨g, 0, none⟩) (x.bs.length + 12) c) (x.bs.length + 12) ((x.bs ++ marks8 12).map (Value.int .u8))) (ho' : w.ownsRow base 3 1 (.slice (some ⟨g', 0, none⟩) (x.st.sl.length + 12) c') (x.st.sl.length + 12) ((x.st.sl ++ marksTo 12).map (Value.int .i64))) (hc : x.bs.length + 12 ≤ c) (hc' : x.st.sl.length + 12 ≤ c') (hy : TaleRd w vy x) (bx : x.bs.length ≤ 1000000000) (bx' : x.st.sl.length ≤ 1000000000) :
    Calls Tryz.prog 33 #[.agg (x.vs (.slice (some ⟨g, 0, none⟩) x.bs.length c) (.slice (some ⟨g', 0, none⟩) x.st.sl.length c')), vy] w fun e w' => e = .returned (.bool true) ∧ Below w.heap.size w w' := by
  have HX := Lib.hid (show TaleRd w (.agg (x.vs (.slice (some ⟨g, 0, none⟩) x.bs.length c) (.slice (some ⟨g', 0, none⟩) x.st.sl.length c'))) x from ⟨_, _, _, _, rfl, rd_lent (RdI.of_own ho) rfl, rd_lent (RdI.of_own ho') rfl⟩)
  obtain ⟨B, d, B', d', rfl, hb, hb'⟩ := hy
  have HB := Lib.hid hb
  have HB' := Lib.hid hb'
  have HO := Lib.hid ho
  have HO' := Lib.hid ho'
  clear hb ho hb' ho'
  unfold TaleS.vs taleV
  go_enter Tryz.func33, Tryz.ntmps33
  go_wp2_with fail
  obtain ⟨wa, hwa⟩ : ∃ wa, wa = (w.alloc (Obj.cells (x.vs (.slice (some ⟨g, 0, none⟩) x.bs.length c) (.slice (some ⟨g', 0, none⟩) x.st.sl.length c')) 47)).alloc (Obj.cells (x.vs (.slice B x.bs.length d) (.slice B' x.st.sl.length d')) 47) := ⟨_, rfl⟩
  have K1 := Lib.hid (show Blk wa w.heap.size 47 (x.vs (.slice (some ⟨g, 0, none⟩) x.bs.length c) (.slice (some ⟨g', 0, none⟩) x.st.sl.length c')) by rw [hwa]; exact (Blk.made _ _ _).alloc _)
  have K2 := Lib.hid (show Blk wa (w.heap.size + 1) 47 (x.vs (.slice B x.bs.length d) (.slice B' x.st.sl.length d')) by rw [hwa]; exact Blk.made_at _ _ _ (by simp))
  have La := Lib.hid (show Below w.heap.size w wa by rw [hwa]; exact (((Below.refl _ _).alloc (Nat.le_refl _) _).alloc (by simp) _))
  unfold TaleS.vs taleV at hwa K1 K2
  rw [← hwa]
  clear hwa
  refine (same_tale x x _ _ wa (HX.out.below La.out) ⟨B, d, B', d', rfl, HB.out.below La.out, HB'.out.below La.out⟩ bx' bx' bx bx).mono ?_
  rintro ev wb ⟨rfl, hbb⟩
  rw [eqTale_self]
  have K1b := Lib.hid (K1.out.below hbb K1.out.lt)
  have K2b := Lib.hid (K2.out.below hbb K2.out.lt)
  have p1 := K1b.out.cell (i := 1) rfl
  have q1 := K2b.out.cell (i := 1) rfl
  have Lb := Lib.hid (below_chain La.out hbb)
  clear hbb K1 K2
  go_wp2_with fail
  refine (kept_bytes x.bs B g x.bs.length c d base wb (HB.out.below Lb.out) (own_lo8 HO.out Lb.out) hc bx).mono ?_
  rintro ev wc ⟨rfl, hbb⟩
  have Lc := Lib.hid (below_chain Lb.out hbb)
  have K1 := K1b
  have K2 := K2b
  clear p1 q1
  have p1 := (K1.out.below hbb K1.out.lt).cell (i := 1) rfl
  have p2 := (K1.out.below hbb K1.out.lt).cell (i := 2) rfl
  have p3 := (K1.out.below hbb K1.out.lt).cell (i := 3) rfl
  have p4 := (K1.out.below hbb K1.out.lt).cell (i := 4) rfl
  have p5 := (K1.out.below hbb K1.out.lt).cell (i := 5) rfl
  have p6 := (K1.out.below hbb K1.out.lt).cell (i := 6) rfl
  have p7 := (K1.out.below hbb K1.out.lt).cell (i := 7) rfl
  have p8 := (K1.out.below hbb K1.out.lt).cell (i := 8) rfl
  have p9 := (K1.out.below hbb K1.out.lt).cell (i := 9) rfl
  have p10 := (K1.out.below hbb K1.out.lt).cell (i := 10) rfl
  have p11 := (K1.out.below hbb K1.out.lt).cell (i := 11) rfl
  have p12 := (K1.out.below hbb K1.out.lt).cell (i := 12) rfl
  have q1 := (K2.out.below hbb K2.out.lt).cell (i := 1) rfl
  have q2 := (K2.out.below hbb K2.out.lt).cell (i := 2) rfl
  have q3 := (K2.out.below hbb K2.out.lt).cell (i := 3) rfl
  have q4 := (K2.out.below hbb K2.out.lt).cell (i := 4) rfl
  have q5 := (K2.out.below hbb K2.out.lt).cell (i := 5) rfl
  have q6 := (K2.out.below hbb K2.out.lt).cell (i := 6) rfl
  have q7 := (K2.out.below hbb K2.out.lt).cell (i := 7) rfl
  have q8 := (K2.out.below hbb K2.out.lt).cell (i := 8) rfl
  have q9 := (K2.out.below hbb K2.out.lt).cell (i := 9) rfl
  have q10 := (K2.out.below hbb K2.out.lt).cell (i := 10) rfl
  have q11 := (K2.out.below hbb K2.out.lt).cell (i := 11) rfl
  have q12 := (K2.out.below hbb K2.out.lt).cell (i := 12) rfl
  clear hbb K1 K2
  go_wp2_with fail
  refine (kept_stat x.st _ g' c' base wc (own_lo8 HO'.out Lc.out) hc' ⟨B', d', rfl, HB'.out.below Lc.out⟩ bx').mono ?_
  rintro ev wd ⟨rfl, hbd⟩
  have Ld := Lib.hid (below_chain Lc.out hbd)
  clear hbd
  go_wp2
  go_ret
  exact ⟨rfl, Ld.out⟩
end Go.Proofs.YtfehgpjnlkgekaaGreatDoor
