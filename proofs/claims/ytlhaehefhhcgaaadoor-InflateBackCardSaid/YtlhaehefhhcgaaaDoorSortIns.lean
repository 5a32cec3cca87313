/-
  The library's insertion sort at rows of packs, and the comparison that 'merge' hands to it.
  slices.SortStableFunc at rows of packs that are short: what is asked of it, and that short rows meet it.
-/
import Derived.Test.YtlhaehefhhcgaaaDoorMem
import Derived.Test.YtlhaehefhhcgaaaDoorSortPlain
namespace Go.Proofs.YtlhaehefhhcgaaaDoor
open Go.RowKit
set_option linter.unusedVariables false

theorem infoPack : (Tryd.prog.info? 149).map (·.size) = some 2 := by kernel_rfl
def Small (x : Int) : Prop := -2305843009213693952 ≤ x ∧ x ≤ 2305843009213693952

theorem cmp_any (x y : Int) (v v' : Value) (w : World) (hx : Small x) (hy : Small y) :
    Calls Tryd.prog 116 #[.agg #[.int .i64 x, v], .agg #[.int .i64 y, v']] w fun e w' => e = .returned (.int .i64 (x - y)) ∧ Below w.heap.size w w' := by
  obtain ⟨h1, h2⟩ := hx
  obtain ⟨h3, h4⟩ := hy
  go_enter Tryd.func116, Tryd.ntmps116
  go_wp2
  go_ret
  exact ⟨rfl, ((Below.refl _ _).alloc (Nat.le_refl _) _).alloc (by simp) _⟩

/-- The row as the sort has it. -/
structure PRow (w : World) (g n cap : Nat) (ps : List PV) : Prop where
  own : w.ownsRow 0 149 2 (.slice (some ⟨g, 0, none⟩) n cap) n (flat ps)
  one : ∀ p ∈ ps, p.2.oneCell' = true

theorem PRow.len {w : World} {g n cap : Nat} {ps : List PV} (h : PRow w g n cap ps) : ps.length = n := by
  have := h.own.1
  rw [flat_len] at this; omega
theorem PRow.at_ {w : World} {g n cap : Nat} {ps : List PV} (h : PRow w g n cap ps) {i : Nat} {p : PV} (hi : ps[i]? = some p) :
    w.cell? ⟨g, i * 2, none⟩ = some (.int .i64 p.1) ∧ w.cell? ⟨g, i * 2 + 1, none⟩ = some p.2 := by
  obtain ⟨h1, h2⟩ := flat_even ps i p hi
  have hlt : i < ps.length := by
    rcases Nat.lt_or_ge i ps.length with h' | h'
    · exact h'
    · rw [List.getElem?_eq_none h'] at hi; cases hi
  have := h.len
  exact ⟨(h.own.cellAt _ (by omega)).trans h1, (h.own.cellAt _ (by omega)).trans h2⟩
theorem PRow.free {w : World} {g n cap : Nat} {ps : List PV} (h : PRow w g n cap ps) (j : Nat) : w.frozen? ⟨g, j, none⟩ = false := h.own.frozenAt j
theorem PRow.put {w : World} {g n cap : Nat} {ps : List PV} (h : PRow w g n cap ps) {i : Nat} (hi : i < ps.length) (p : PV) (hp : p.2.oneCell' = true) :
    PRow ((w.setCell ⟨g, i * 2, none⟩ (.int .i64 p.1)).setCell ⟨g, i * 2 + 1, none⟩ p.2) g n cap (ps.set i p) := by
  have h1 := ((h.own.stored (i * 2) (.int .i64 p.1)).1.stored (i * 2 + 1) p.2).1
  rw [flat_set ps i p hi] at h1
  refine ⟨h1, fun q hq => ?_⟩
  rcases List.mem_or_eq_of_mem_set hq with hq | rfl
  · exact h.one q hq
  · exact hp
theorem PRow.grown {w w' : World} {g n cap : Nat} {ps : List PV} (h : PRow w g n cap ps) (hb : Below w.heap.size w w') : PRow w' g n cap ps :=
  ⟨h.own.kept (row := none) ⟨hb.os, hb.tape, hb.output, hb.size, fun k hk _ => hb.block k hk⟩ (.inr (by simp [Value.ownBlock])), h.one⟩
/-- An element is stored. -/
theorem prow_store {ops : Array Oper} {rest : List Oper} {op : Oper} {a : Act} {Q : Exit → Act → World → Prop} {w : World} (hgd : op.guard = none) (x y : Operand) (ho : op.op = .store 149 x y) {g n cap : Nat} {ps : List PV} (i : Nat) (p : PV) (off : Nat) (hoff : off = i * 2)
    (hx : a.eval x = .pointer (some ⟨g, off, none⟩)) (hy : a.eval y = .agg #[.int .i64 p.1, p.2]) (h : PRow w g n cap ps) (hi : i < ps.length) (hp : p.2.oneCell' = true)
    (hk : ∀ w1, PRow w1 g n cap (ps.set i p) → w.grownBy w1 (some g) → wpList Tryd.prog ops Q rest (a.put op.dst undef) w1) : wpList Tryd.prog ops Q (op :: rest) a w := by
  subst hoff
  have hl := h.len
  refine wpList_store_mid hgd _ x y ho g (i * 2) #[.int .i64 p.1, p.2] hx hy (fun j hj => ⟨?_, h.free _⟩) (by rw [infoPack]; rfl) (all_oneCell_toArray (cs := [.int .i64 p.1, p.2]) (fun v hv => by
    simp only [List.mem_cons, List.not_mem_nil, or_false] at hv
    rcases hv with rfl | rfl
    · rfl
    · exact hp)) (hk _ (h.put hi p hp) ?_)
  · have hj2 : j = 0 ∨ j = 1 := by simp at hj; omega
    have hc := h.at_ (List.getElem?_eq_getElem hi)
    rcases hj2 with rfl | rfl
    · rw [Nat.add_zero, hc.1]; rfl
    · rw [hc.2]; rfl
  · exact (grown_setCells _ w _).1
theorem PRow.drew {w : World} {g n cap : Nat} {ps : List PV} (h : PRow w g n cap ps) : PRow w.drew g n cap ps := ⟨h.own.drew, h.one⟩
theorem grown_below {w w' w'' : World} {row : Option Nat} (h : w.grownBy w' row) (hb : Below w'.heap.size w' w'') : w.grownBy w'' row :=
  ⟨hb.os.trans h.os, hb.tape.trans h.tape, hb.output.trans h.output, Nat.le_trans h.size hb.size, fun k hk hn => (hb.block k (Nat.lt_of_lt_of_le hk h.size)).trans (h.block k hk hn)⟩
theorem grown_drew {w w' : World} {row : Option Nat} (h : w.grownBy w' row) : w.grownBy w'.drew row := ⟨h.os, h.tape, h.output, h.size, h.block⟩

/-- The relation of the outer loop. -/
def I1 (x s y : List PV) (a : Nat) (w : World) (g n cap : Nat) (iv : Value) (wr : World) : Prop :=
  ∃ (m i : Nat) (t : List PV), 1 ≤ m ∧ m ≤ s.length ∧ iv = .int .i64 i ∧ i = a + m ∧ Srt t ∧ StEq (s.take m) t ∧ PRow wr g n cap (x ++ (t ++ s.drop m) ++ y) ∧ w.grownBy wr (some g)
/-- The relation of the inner loop. t: what is sorted; e: the one that sinks. -/
def I2 (x r : List PV) (t : List PV) (e : PV) (a : Nat) (w : World) (g n cap : Nat) (jv : Value) (wr : World) : Prop :=
  ∃ (l1 l2 : List PV) (j : Nat), t = l1 ++ l2 ∧ jv = .int .i64 j ∧ j = a + l1.length ∧ (∀ q ∈ l2, e.1 < q.1) ∧ PRow wr g n cap (x ++ (l1 ++ e :: l2) ++ r) ∧ w.grownBy wr (some g)

def InsPost (x s y : List PV) (w : World) (g n cap : Nat) (e : Ending) (w' : World) : Prop :=
  e = .returned (.tuple #[]) ∧ ∃ s', Srt s' ∧ StEq s s' ∧ PRow w' g n cap (x ++ s' ++ y) ∧ w.grownBy w' (some g)

/-- The inner loop ends: what was sorted, and e in its place. -/
theorem ins_done {x s y : List PV} {a : Nat} {w : World} {g n cap m i : Nat} {t : List PV} {e : PV} {wr : World} {l1 l2 : List PV} (hm : m < s.length) (he : s[m]? = some e) (hi : i = a + m) (hts : Srt t) (hte : StEq (s.take m) t) (hl : t = l1 ++ l2)
    (hq : ∀ q ∈ l2, e.1 < q.1) (hl1 : ∀ q ∈ l1, q.1 ≤ e.1) (hr : PRow wr g n cap (x ++ (l1 ++ e :: l2) ++ (s.drop (m + 1) ++ y))) (hg : w.grownBy wr (some g)) :
    I1 x s y a w g n cap (.int .i64 ((i : Int) + 1)) wr := by
  subst hl
  have hts' := List.pairwise_append.1 hts
  refine ⟨m + 1, i + 1, l1 ++ e :: l2, by omega, by omega, by simp, by omega, ?_, ?_, by simpa using hr, hg⟩
  · refine List.pairwise_append.2 ⟨hts'.1, List.pairwise_cons.2 ⟨fun q hq' => by have := hq q hq'; omega, hts'.2.1⟩, fun p hp q hq' => ?_⟩
    rcases List.mem_cons.1 hq' with rfl | hq'
    · exact hl1 p hp
    · exact hts'.2.2 p hp q hq'
  · have h1 : s.take (m + 1) = s.take m ++ [e] := by
      rw [List.take_succ_eq_append_getElem hm]
      congr 2
      have := List.getElem?_eq_getElem hm
      rw [he] at this
      injection this with this; exact this.symm
    rw [h1]
    have h2 := (hte.append (StEq.refl [e]))
    have h3 := (StEq.refl l1).append (StEq.ahead e l2 hq)
    exact h2.trans (by simpa using h3)

theorem pv_at (x l1 l2 r : List PV) (e : PV) (j : Nat) (hj : j = x.length + l1.length) : (x ++ (l1 ++ e :: l2) ++ r)[j]? = some e := by
  subst hj
  simp

theorem swap_set (x l0 l2 r : List PV) (q e : PV) (j : Nat) (hj : j - 1 = x.length + l0.length) (h1 : 1 ≤ j) :
    ((x ++ (l0 ++ q :: e :: l2) ++ r).set j q).set (j - 1) e = x ++ (l0 ++ e :: q :: l2) ++ r := by
  have e1 : x ++ (l0 ++ q :: e :: l2) ++ r = (x ++ l0) ++ q :: e :: (l2 ++ r) := by simp
  have e2 : x ++ (l0 ++ e :: q :: l2) ++ r = (x ++ l0) ++ e :: q :: (l2 ++ r) := by simp
  have hl : (x ++ l0).length = j - 1 := by simp; omega
  rw [e1, e2, List.set_append_right _ _ (by omega), hl, show j - (j - 1) = 1 from by omega]
  rw [List.set_append_right _ _ (by omega), hl, Nat.sub_self]
  rfl

set_option maxHeartbeats 1600000 in
theorem ins_any (x s y : List PV) (w : World) (g n cap a b : Nat) (hrow : PRow w g n cap (x ++ s ++ y)) (ha : a = x.length) (hb : b = a + s.length) (hn : n ≤ 35184372088832) (hsm : ∀ p ∈ s, Small p.1) :
    Calls Tryd.prog 127 #[.slice (some ⟨g, 0, none⟩) n cap, .int .i64 a, .int .i64 b, .func (.func 116) #[] #[]] w (InsPost x s y w g n cap) := by
  have hlen : n = x.length + s.length + y.length := by
    have := hrow.len
    simp at this; omega
  have HLen := Lib.hid hlen
  have HA := Lib.hid ha
  have HB := Lib.hid hb
  have HRow := Lib.hid hrow
  have HSm := Lib.hid hsm
  have hab : a + s.length ≤ n := by omega
  have hb1 : b ≤ n := by omega
  have hb2 : a ≤ b := by omega
  clear hlen hrow hsm ha hb
  by_cases hs0 : s.length = 0
  · have hlt : ¬ ((a : Int) + 1 < b) := by have := HB.out; omega
    have HS : Hid (s = []) := List.eq_nil_of_length_eq_zero hs0
    clear hs0
    go_enter Tryd.func127, Tryd.ntmps127
    go_wp2
    go_rounds 1
    go_end0
    exact ⟨rfl, [], by simp [Srt], by rw [HS.out]; exact StEq.refl _, by rw [← HS.out]; exact HRow.out, World.grownBy.refl _ _⟩
  go_enter Tryd.func127, Tryd.ntmps127
  go_wp2
  go_loopw [8] (I1 x s y a w g n cap) (fun i _ => b - (intOf i).toNat)
  case atStart =>
    refine ⟨1, a + 1, s.take 1, by omega, by omega, by go_num, rfl, ?_, StEq.refl _, ?_, World.grownBy.refl _ _⟩
    · have : (s.take 1).length ≤ 1 := List.length_take_le _ _
      match hh : s.take 1, this with
      | [], _ => simp [Srt]
      | [p], _ => simp [Srt]
    · rw [List.take_append_drop]; exact HRow.out
  case round =>
    obtain ⟨m, i, t, hm1, hm2, rfl, hi, hts, hte, hrw, hgr⟩ := hrel
    have HI := Lib.hid hi
    have HTS := Lib.hid hts
    have HTE := Lib.hid hte
    have HRW := Lib.hid hrw
    have HGR := Lib.hid hgr
    clear hts hte hrw hgr hi
    have him := HI.out
    have hib := HB.out
    by_cases hlt : m < s.length
    · have hltb : (i : Int) < b := by omega
      obtain ⟨e, he⟩ : ∃ e, s[m]? = some e := ⟨_, List.getElem?_eq_getElem hlt⟩
      have HE := Lib.hid he
      clear he him hib
      go_wp2
      go_loopw [9] (I2 x (s.drop (m + 1) ++ y) t e a w g n cap) (fun j _ => (intOf j).toNat)
      case atStart =>
        refine ⟨t, [], i, by simp, rfl, ?_, by simp, ?_, HGR.out⟩
        · have h1 := HTE.out.length
          have h2 := HI.out
          simp at h1; omega
        · have h1 : s.drop m = e :: s.drop (m + 1) := by
            have h2 := HE.out
            rw [List.getElem?_eq_getElem hlt] at h2
            injection h2 with h2
            rw [List.drop_eq_getElem_cons hlt, h2]
          have := HRW.out
          rw [h1] at this
          simpa using this
      case round =>
        rename_i wr0 _ _
        obtain ⟨l1, l2, j, hl, rfl, hj, hq, hrw, hgr⟩ := hrel
        have HL := Lib.hid hl
        have HJ := Lib.hid hj
        have HQ := Lib.hid hq
        have HRW2 := Lib.hid hrw
        have HGR2 := Lib.hid hgr
        have hjn : j < n := by
          have h1 := hrw.len
          have h2 := HA.out
          simp at h1; omega
        clear hl hj hq hrw hgr
        have hjn' : (j : Int) < n := by omega
        by_cases hja : a < j
        · have hd : decide ((a : Int) < j) = true := by simp; omega
          have hj1 : (1 : Int) ≤ j := by omega
          obtain ⟨l0, q, hl0⟩ : ∃ l0 q, l1 = l0 ++ [q] := by
            have h1 : l1 ≠ [] := by
              rintro rfl
              have := HJ.out
              simp at this; omega
            exact ⟨l1.dropLast, l1.getLast h1, (List.dropLast_concat_getLast h1).symm⟩
          have HL0 := Lib.hid hl0
          obtain ⟨c1, c2⟩ := HRW2.out.at_ (pv_at x l1 l2 (s.drop (m + 1) ++ y) e j (by have := HJ.out; have := HA.out; omega))
          have hj0 : j - 1 = x.length + l0.length := by
            have h1 := HJ.out
            have h2 := HA.out
            rw [hl0] at h1
            simp at h1; omega
          have hrow0 : PRow wr g n cap (x ++ (l0 ++ q :: e :: l2) ++ (s.drop (m + 1) ++ y)) := by
            have := HRW2.out
            rw [hl0] at this
            simpa using this
          obtain ⟨d1, d2⟩ := hrow0.at_ (pv_at x l0 (e :: l2) (s.drop (m + 1) ++ y) q (j - 1) hj0)
          have HR0 := Lib.hid hrow0
          have HJ0 := Lib.hid hj0
          have hse : Small e.1 := HSm.out e (List.mem_of_getElem? HE.out)
          have hsq : Small q.1 := by
            have h1 : q ∈ t := by rw [HL.out, HL0.out]; simp
            have h2 := (HTE.out.mem q).2 h1
            exact HSm.out q (List.mem_of_mem_take h2)
          clear hl0 hrow0 hj0
          have HSE := Lib.hid hse
          have HSQ := Lib.hid hsq
          have hse' := hse
          have hsq' := hsq
          unfold Small at hse' hsq'
          clear hse hsq
          by_cases hcmp : e.1 < q.1
          · have hdc : decide (e.1 - q.1 < 0) = true := by simp; omega
            go_wp2
            refine wp_region_qs (fun k w' => k = 0 → w'.cell? ⟨g, j * 2, none⟩ = some (.int .i64 e.1) ∧ w'.cell? ⟨g, j * 2 + 1, none⟩ = some e.2 ∧ w'.cell? ⟨g, (j - 1) * 2, none⟩ = some (.int .i64 q.1) ∧ w'.cell? ⟨g, (j - 1) * 2 + 1, none⟩ = some q.2)
              [(0, some 1), (1, some 1), (2, some 1), (3, some 0), (4, some 0), (5, some 1), (6, some 1), (7, some 1), (8, some 0), (9, some 1), (10, some 1), (11, some 1), (12, some 1), (13, some 0), (14, none), (15, some 1), (16, some 1)] (by kernel_rfl) (by kernel_rfl) (by kernel_rfl) (by kernel_rfl) (by kernel_rfl) (fun _ _ _ _ _ h => h) (fun _ => ⟨c1, c2, d1, d2⟩) ?_
            simp only [List.map_cons, List.map_nil, List.getD_cons_succ, List.getD_cons_zero]
            (repeat (first | (refine qs_now (v := ?_) (by rfl) ?_ ?_; rotate_left 1; (· (intro w' hS; go_simp; (try (simp only [↓IntWalk.iteOmega]; go_simp)); (try simp (disch := omega) only [IntWalk.i64_in]); try with_reducible rfl)); simp only [Act.put, List.setIfInBounds_toArray, List.set_cons_zero, List.set_cons_succ]) | (refine qs_run (v := ?_) (by rfl) ?_ ?_; rotate_left 1; (· (intro j w' hS; go_simp; (try (simp only [↓IntWalk.iteOmega]; go_simp)); (try simp (disch := omega) only [IntWalk.i64_in]); try with_reducible rfl)); simp only [Act.put, List.setIfInBounds_toArray, List.set_cons_zero, List.set_cons_succ]) | (refine qs_skip (by rfl) ?_; simp only [Act.put, List.setIfInBounds_toArray, List.set_cons_zero, List.set_cons_succ])))
            refine qs_act ?_
            go_wp2_with (go_at_call 116; refine (cmp_any e.1 q.1 _ _ _ HSE.out HSQ.out).mono ?_; rintro ev w1 ⟨rfl, hb1⟩)
            refine ⟨fun h => h.elim, ?_⟩
            (repeat (first | (refine qs_now (v := ?_) (by rfl) ?_ ?_; rotate_left 1; (· (intro w' hS; go_simp; (try (simp only [↓IntWalk.iteOmega]; go_simp)); (try simp (disch := omega) only [IntWalk.i64_in]); try with_reducible rfl)); simp only [Act.put, List.setIfInBounds_toArray, List.set_cons_zero, List.set_cons_succ]) | (refine qs_run (v := ?_) (by rfl) ?_ ?_; rotate_left 1; (· (intro j w' hS; go_simp; (try (simp only [↓IntWalk.iteOmega]; go_simp)); (try simp (disch := omega) only [IntWalk.i64_in]); try with_reducible rfl)); simp only [Act.put, List.setIfInBounds_toArray, List.set_cons_zero, List.set_cons_succ]) | (refine qs_skip (by rfl) ?_; simp only [Act.put, List.setIfInBounds_toArray, List.set_cons_zero, List.set_cons_succ])))
            refine qs_nil ?_
            clear c1 c2 d1 d2
            have HR1 := Lib.hid (HR0.out.drew.grown hb1)
            have HG1 := Lib.hid (grown_below (grown_drew HGR2.out) hb1)
            clear hb1
            go_wp2
            obtain ⟨d1, d2⟩ := HR1.out.at_ (pv_at x l0 (e :: l2) (s.drop (m + 1) ++ y) q (j - 1) HJ0.out)
            have hr1' : PRow w1 g n cap (x ++ ((l0 ++ [q]) ++ e :: l2) ++ (s.drop (m + 1) ++ y)) := by simpa using HR1.out
            obtain ⟨c1, c2⟩ := hr1'.at_ (pv_at x (l0 ++ [q]) l2 (s.drop (m + 1) ++ y) e j (by have := HJ0.out; simp; omega))
            clear hr1'
            have f1 := HR1.out.free (j * 2)
            have f2 := HR1.out.free (j * 2 + 1)
            have f3 := HR1.out.free ((j - 1) * 2)
            have f4 := HR1.out.free ((j - 1) * 2 + 1)
            refine wp_region_qs (fun k w' => k = 0 → w'.cell? ⟨g, j * 2, none⟩ = some (.int .i64 e.1) ∧ w'.cell? ⟨g, j * 2 + 1, none⟩ = some e.2 ∧ w'.cell? ⟨g, (j - 1) * 2, none⟩ = some (.int .i64 q.1) ∧ w'.cell? ⟨g, (j - 1) * 2 + 1, none⟩ = some q.2)
              [(0, some 0), (1, some 0), (2, some 1), (3, some 1), (4, some 1), (5, some 0), (6, some 0), (7, some 0), (8, some 0), (9, some 0), (10, some 1), (11, some 1), (12, some 1), (13, some 0), (14, some 0), (15, none), (16, some 1), (17, none)] (by kernel_rfl) (by kernel_rfl) (by kernel_rfl) (by kernel_rfl) (by kernel_rfl) (fun _ _ _ _ _ h => h) (fun _ => ⟨c1, c2, d1, d2⟩) ?_
            simp only [List.map_cons, List.map_nil, List.getD_cons_succ, List.getD_cons_zero]
            (repeat (first | (refine qs_now (v := ?_) (by rfl) ?_ ?_; rotate_left 1; (· (intro w' hS; go_simp; (try (simp only [↓IntWalk.iteOmega]; go_simp)); (try simp (disch := omega) only [IntWalk.i64_in]); try with_reducible rfl)); simp only [Act.put, List.setIfInBounds_toArray, List.set_cons_zero, List.set_cons_succ]) | (refine qs_run (v := ?_) (by rfl) ?_ ?_; rotate_left 1; (· (intro j w' hS; go_simp; (try (simp only [↓IntWalk.iteOmega]; go_simp)); (try simp (disch := omega) only [IntWalk.i64_in]); try with_reducible rfl)); simp only [Act.put, List.setIfInBounds_toArray, List.set_cons_zero, List.set_cons_succ]) | (refine qs_skip (by rfl) ?_; simp only [Act.put, List.setIfInBounds_toArray, List.set_cons_zero, List.set_cons_succ])))
            have hin : ∀ k, k ≤ j → k < (x ++ (l0 ++ q :: e :: l2) ++ (s.drop (m + 1) ++ y)).length := fun k hk => by rw [HR1.out.len]; omega
            have hone := HR1.out.one
            have HIN := Lib.hid hin
            have HONE := Lib.hid hone
            clear hin hone c1 c2 d1 d2 f1 f2 f3 f4
            refine qs_act ?_
            refine prow_store rfl (.tmp 51) (.tmp 46) rfl j q _ rfl rfl rfl HR1.out.drew (HIN.out j (Nat.le_refl _)) (HONE.out q (by simp)) ?_
            intro w2 hr2 hg2
            have HR2 := Lib.hid hr2
            have HG2 := Lib.hid ((grown_drew HG1.out).trans hg2)
            clear hr2 hg2
            refine wpList_nil ?_
            refine ⟨fun h => (by cases h), ?_⟩
            (repeat (first | (refine qs_now (v := ?_) (by rfl) ?_ ?_; rotate_left 1; (· (intro w' hS; go_simp; (try (simp only [↓IntWalk.iteOmega]; go_simp)); (try simp (disch := omega) only [IntWalk.i64_in]); try with_reducible rfl)); simp only [Act.put, List.setIfInBounds_toArray, List.set_cons_zero, List.set_cons_succ]) | (refine qs_run (v := ?_) (by rfl) ?_ ?_; rotate_left 1; (· (intro j w' hS; go_simp; (try (simp only [↓IntWalk.iteOmega]; go_simp)); (try simp (disch := omega) only [IntWalk.i64_in]); try with_reducible rfl)); simp only [Act.put, List.setIfInBounds_toArray, List.set_cons_zero, List.set_cons_succ]) | (refine qs_skip (by rfl) ?_; simp only [Act.put, List.setIfInBounds_toArray, List.set_cons_zero, List.set_cons_succ])))
            refine qs_act ?_
            refine prow_store rfl (.tmp 52) (.tmp 50) rfl (j - 1) e _ rfl rfl rfl HR2.out (by rw [List.length_set]; exact HIN.out (j - 1) (by omega)) (HONE.out e (by simp)) ?_
            intro w3 hr3 hg3
            have HR3 := Lib.hid hr3
            have HG3 := Lib.hid (HG2.out.trans hg3)
            clear hr3 hg3
            refine wpList_nil ?_
            refine ⟨fun h => (by cases h), ?_⟩
            refine qs_nil ?_
            go_wp2
            go_roundw
            case rel =>
              refine ⟨l0, q :: l2, j - 1, by rw [HL.out, HL0.out]; simp, by go_num, by rw [HJ0.out, HA.out], fun p hp => ?_, ?_, HG3.out⟩
              · rcases List.mem_cons.1 hp with rfl | hp
                · exact hcmp
                · exact HQ.out p hp
              · have := HR3.out
                rw [swap_set x l0 l2 _ q e j HJ0.out (by omega)] at this
                exact this
            case measure => simp [intOf]; omega
          · have hdc : decide (e.1 - q.1 < 0) = false := by simp; omega
            go_wp2
            refine wp_region_qs (fun k w' => k = 0 → w'.cell? ⟨g, j * 2, none⟩ = some (.int .i64 e.1) ∧ w'.cell? ⟨g, j * 2 + 1, none⟩ = some e.2 ∧ w'.cell? ⟨g, (j - 1) * 2, none⟩ = some (.int .i64 q.1) ∧ w'.cell? ⟨g, (j - 1) * 2 + 1, none⟩ = some q.2)
              [(0, some 1), (1, some 1), (2, some 1), (3, some 0), (4, some 0), (5, some 1), (6, some 1), (7, some 1), (8, some 0), (9, some 1), (10, some 1), (11, some 1), (12, some 1), (13, some 0), (14, none), (15, some 1), (16, some 1)] (by kernel_rfl) (by kernel_rfl) (by kernel_rfl) (by kernel_rfl) (by kernel_rfl) (fun _ _ _ _ _ h => h) (fun _ => ⟨c1, c2, d1, d2⟩) ?_
            simp only [List.map_cons, List.map_nil, List.getD_cons_succ, List.getD_cons_zero]
            (repeat (first | (refine qs_now (v := ?_) (by rfl) ?_ ?_; rotate_left 1; (· (intro w' hS; go_simp; (try (simp only [↓IntWalk.iteOmega]; go_simp)); (try simp (disch := omega) only [IntWalk.i64_in]); try with_reducible rfl)); simp only [Act.put, List.setIfInBounds_toArray, List.set_cons_zero, List.set_cons_succ]) | (refine qs_run (v := ?_) (by rfl) ?_ ?_; rotate_left 1; (· (intro j w' hS; go_simp; (try (simp only [↓IntWalk.iteOmega]; go_simp)); (try simp (disch := omega) only [IntWalk.i64_in]); try with_reducible rfl)); simp only [Act.put, List.setIfInBounds_toArray, List.set_cons_zero, List.set_cons_succ]) | (refine qs_skip (by rfl) ?_; simp only [Act.put, List.setIfInBounds_toArray, List.set_cons_zero, List.set_cons_succ])))
            refine qs_act ?_
            go_wp2_with (go_at_call 116; refine (cmp_any e.1 q.1 _ _ _ HSE.out HSQ.out).mono ?_; rintro ev w1 ⟨rfl, hb1⟩)
            refine ⟨fun h => h.elim, ?_⟩
            (repeat (first | (refine qs_now (v := ?_) (by rfl) ?_ ?_; rotate_left 1; (· (intro w' hS; go_simp; (try (simp only [↓IntWalk.iteOmega]; go_simp)); (try simp (disch := omega) only [IntWalk.i64_in]); try with_reducible rfl)); simp only [Act.put, List.setIfInBounds_toArray, List.set_cons_zero, List.set_cons_succ]) | (refine qs_run (v := ?_) (by rfl) ?_ ?_; rotate_left 1; (· (intro j w' hS; go_simp; (try (simp only [↓IntWalk.iteOmega]; go_simp)); (try simp (disch := omega) only [IntWalk.i64_in]); try with_reducible rfl)); simp only [Act.put, List.setIfInBounds_toArray, List.set_cons_zero, List.set_cons_succ]) | (refine qs_skip (by rfl) ?_; simp only [Act.put, List.setIfInBounds_toArray, List.set_cons_zero, List.set_cons_succ])))
            refine qs_nil ?_
            clear c1 c2 d1 d2
            have HR1 := Lib.hid (HRW2.out.drew.grown hb1)
            have HG1 := Lib.hid (grown_below (grown_drew HGR2.out) hb1)
            clear hb1
            go_wp2
            go_roundw
            case rel =>
              refine ins_done hlt HE.out HI.out HTS.out HTE.out HL.out HQ.out (fun p hp => ?_) HR1.out HG1.out
              have h1 := HTS.out
              rw [HL.out, HL0.out] at h1
              have h2 := (List.pairwise_append.1 (List.pairwise_append.1 h1).1).2.2
              rw [HL0.out] at hp
              rcases List.mem_append.1 hp with hp | hp
              · have := h2 p hp q (by simp); omega
              · obtain rfl : p = q := by simpa using hp
                omega
            case measure => simp [intOf]; omega
        · have hja' : j = a := by have := HJ.out; omega
          have hl1 : l1 = [] := List.eq_nil_of_length_eq_zero (by have := HJ.out; omega)
          have HL1 := Lib.hid hl1
          clear hl1 hja'
          have hd : decide ((a : Int) < j) = false := by simp; omega
          go_wp2
          refine wp_region_qs (fun k w' => True) [(0, some 1), (1, some 1), (2, some 1), (3, some 0), (4, some 0), (5, some 1), (6, some 1), (7, some 1), (8, some 0), (9, some 1), (10, some 1), (11, some 1), (12, some 1), (13, some 0), (14, none), (15, some 1), (16, some 1)] (by kernel_rfl) (by kernel_rfl) (by kernel_rfl) (by kernel_rfl) (by kernel_rfl) (fun _ _ _ _ _ h => h) trivial ?_
          simp only [List.map_cons, List.map_nil, List.getD_cons_succ, List.getD_cons_zero]
          (repeat (first | (refine qs_now (v := ?_) (by rfl) ?_ ?_; rotate_left 1; (· (intro w' hS; go_simp; (try (simp only [↓IntWalk.iteOmega]; go_simp)); (try simp (disch := omega) only [IntWalk.i64_in]); try with_reducible rfl)); simp only [Act.put, List.setIfInBounds_toArray, List.set_cons_zero, List.set_cons_succ]) | (refine qs_run (v := ?_) (by rfl) ?_ ?_; rotate_left 1; (· (intro j w' hS; go_simp; (try (simp only [↓IntWalk.iteOmega]; go_simp)); (try simp (disch := omega) only [IntWalk.i64_in]); try with_reducible rfl)); simp only [Act.put, List.setIfInBounds_toArray, List.set_cons_zero, List.set_cons_succ]) | (refine qs_skip (by rfl) ?_; simp only [Act.put, List.setIfInBounds_toArray, List.set_cons_zero, List.set_cons_succ])))
          refine qs_act ?_
          go_wp2
          refine ⟨trivial, ?_⟩
          (repeat (first | (refine qs_now (v := ?_) (by rfl) ?_ ?_; rotate_left 1; (· (intro w' hS; go_simp; (try (simp only [↓IntWalk.iteOmega]; go_simp)); (try simp (disch := omega) only [IntWalk.i64_in]); try with_reducible rfl)); simp only [Act.put, List.setIfInBounds_toArray, List.set_cons_zero, List.set_cons_succ]) | (refine qs_run (v := ?_) (by rfl) ?_ ?_; rotate_left 1; (· (intro j w' hS; go_simp; (try (simp only [↓IntWalk.iteOmega]; go_simp)); (try simp (disch := omega) only [IntWalk.i64_in]); try with_reducible rfl)); simp only [Act.put, List.setIfInBounds_toArray, List.set_cons_zero, List.set_cons_succ]) | (refine qs_skip (by rfl) ?_; simp only [Act.put, List.setIfInBounds_toArray, List.set_cons_zero, List.set_cons_succ])))
          refine qs_nil ?_
          go_wp2
          go_roundw
          case rel => exact ins_done hlt HE.out HI.out HTS.out HTE.out HL.out HQ.out (fun p hp => by rw [HL1.out] at hp; cases hp) HRW2.out.drew (grown_drew HGR2.out)
          case measure => simp [intOf]; omega
    · have hltb : ¬ (i : Int) < b := by omega
      obtain rfl : m = s.length := by omega
      clear him hib
      go_wp2
      go_end0
      refine ⟨rfl, t, HTS.out, ?_, ?_, HGR.out⟩
      · have := HTE.out
        rwa [List.take_length] at this
      · have := HRW.out
        rwa [List.drop_length, List.append_nil] at this
end Go.Proofs.YtlhaehefhhcgaaaDoor
namespace Go.Proofs.YtlhaehefhhcgaaaDoor
open Go.RowKit
set_option linter.unusedVariables false

def SortPost (s : List PV) (w : World) (g n cap : Nat) (e : Ending) (w' : World) : Prop :=
  e = .returned (.tuple #[]) ∧ PRow w' g n cap (stSort s) ∧ w.grownBy w' (some g)
/-- Rows of at most N packs are sorted, stably. -/
def StableSaid (N : Nat) : Prop := ∀ (s : List PV) (w : World) (g n cap : Nat), n ≤ N → PRow w g n cap s → (∀ p ∈ s, Small p.1) →
  Calls Tryd.prog 115 #[.slice (some ⟨g, 0, none⟩) n cap, .func (.func 116) #[] #[]] w (SortPost s w g n cap)

set_option maxHeartbeats 800000 in
theorem stable_small (s : List PV) (w : World) (g n cap : Nat) (hn : n ≤ 19) (hr : PRow w g n cap s) (hs : ∀ p ∈ s, Small p.1) :
    Calls Tryd.prog 125 #[.slice (some ⟨g, 0, none⟩) n cap, .int .i64 n, .func (.func 116) #[] #[]] w (SortPost s w g n cap) := by
  have HR := Lib.hid hr
  have HS := Lib.hid hs
  clear hr hs
  have h20 : ¬ (20 : Int) ≤ n := by omega
  have h20' : ¬ (20 : Int) < n := by omega
  go_enter Tryd.func125, Tryd.ntmps125
  go_wp2
  refine wp_loop_rounds 1 ?_
  rw [rounds_succ]
  go_wp2_with fail
  refine (ins_any [] s [] w g n cap 0 n (by simpa using HR.out) rfl (by have := HR.out.len; omega) (by omega) HS.out).mono ?_
  rintro ev w1 ⟨rfl, s', h1, h2, h3, h4⟩
  have HP : Hid (SortPost s w g n cap (.returned (.tuple #[])) w1) := ⟨rfl, by rw [← stSort_of h1 h2]; simpa using h3, h4⟩
  clear h1 h2 h3 h4
  go_wp2
  refine wp_loop_rounds 1 ?_
  rw [rounds_succ]
  go_wp2
  go_end0
  exact HP.out

theorem stableSaid_small : StableSaid 19 := by
  intro s w g n cap hn hr hs
  have HR := Lib.hid hr
  have HS := Lib.hid hs
  clear hr hs
  go_enter Tryd.func115, Tryd.ntmps115
  go_wp2_with (go_at_call 125; refine (stable_small s w g n cap hn HR.out HS.out).mono ?_; rintro ev w1 ⟨rfl, h1⟩; have HP := Lib.hid h1; clear h1)
  go_end0
  exact ⟨rfl, HP.out⟩
end Go.Proofs.YtlhaehefhhcgaaaDoor
