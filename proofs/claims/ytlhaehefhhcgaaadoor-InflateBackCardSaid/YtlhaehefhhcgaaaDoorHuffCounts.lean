/-
  huff.counts and huff.firsts: what they return for any lengths.
-/
import Derived.Test.YtlhaehefhhcgaaaDoorChecked
import Derived.Test.YtlhaehefhhcgaaaDoorMem
import Derived.Test.YtlhaehefhhcgaaaDoorHuffSpec
namespace Go.Proofs.YtlhaehefhhcgaaaDoor
open Go.RowKit
set_option linter.unusedVariables false

def cntv (zs : List Int) (l : Nat) : Value := Value.int .i64 (cntI zs l)
def rowOf (f : Nat → Value) (n : Nat) : Array Value := ((List.range n).map f).toArray
theorem rowOf_at {f : Nat → Value} {n i : Nat} (h : i < n) : (rowOf f n)[i]? = some (f i) := by simp [rowOf, h]
theorem rowOf_size (f : Nat → Value) (n : Nat) : (rowOf f n).size = n := by simp [rowOf]
theorem rowOf_ext {f : Nat → Value} {n : Nat} {cs : Array Value} (hs : cs.size = n) (h : ∀ i, i < n → cs[i]? = some (f i)) : cs = rowOf f n := by
  apply Array.ext_getElem?
  intro i
  by_cases hi : i < n
  · rw [h i hi, rowOf_at hi]
  · rw [Array.getElem?_eq_none (by omega), Array.getElem?_eq_none (by rw [rowOf_size]; omega)]
theorem rowOf_set {f : Nat → Value} {n i : Nat} (v : Value) (_hi : i < n) : (rowOf f n).setIfInBounds i v = rowOf (fun j => if j = i then v else f j) n := by
  apply rowOf_ext (by simp [rowOf_size])
  intro j hj
  rw [Array.getElem?_setIfInBounds]
  by_cases e : i = j
  · subst e; simp [rowOf_size, hj]
  · rw [if_neg e, rowOf_at hj, if_neg (fun h => e h.symm)]
theorem rowOf_congr {f f' : Nat → Value} {n : Nat} (h : ∀ i, i < n → f i = f' i) : rowOf f n = rowOf f' n := by
  apply rowOf_ext (rowOf_size _ _)
  intro i hi; rw [rowOf_at hi, h i hi]
theorem cntI_step (zs : List Int) (z : Int) (hz : 0 < z) (hz2 : z ≤ 15) :
    (rowOf (cntv zs) 16).setIfInBounds z.toNat (.int .i64 (cntI zs z.toNat + 1)) = rowOf (cntv (zs ++ [z])) 16 := by
  rw [rowOf_set _ (by omega)]
  apply rowOf_congr
  intro i hi
  unfold cntv cntI
  rw [cnt_snoc]
  by_cases h : i = z.toNat
  · subst h
    have h0 : z.toNat ≠ 0 := by omega
    have h1 : z = (z.toNat : Int) := by omega
    simp only [if_true, h0, if_false]
    rw [if_pos h1]; simp
  · rw [if_neg h]
    by_cases h0 : i = 0
    · simp [h0]
    · rw [if_neg h0, if_neg h0, if_neg (by omega)]; simp
theorem cntI_stay (zs : List Int) (z : Int) (hz : z = 0) : rowOf (cntv (zs ++ [z])) 16 = rowOf (cntv zs) 16 := by
  apply rowOf_congr
  intro i _
  unfold cntv cntI
  rw [cnt_snoc]
  by_cases h0 : i = 0
  · simp [h0]
  · rw [if_neg h0, if_neg h0, if_neg (by omega)]; simp

/-- What 'counts' returns. -/
def CountsPost (zs : List Int) (w : World) (e : Ending) (w' : World) : Prop :=
  ∃ cs : Array Value, e = .returned (.tuple #[.agg cs, .bool (countsOk zs)]) ∧ (countsOk zs = true → cs = rowOf (cntv zs) 16) ∧ cs.size = 16 ∧ (∀ v ∈ cs.toList, v.oneCell' = true) ∧ Below w.heap.size w w'

theorem counts_no {zs : List Int} {w w1 : World} {cs : Array Value} (hc : countsOk zs = false) (hs : cs.size = 16) (ho : ∀ v ∈ cs.toList, v.oneCell' = true) (hb : Below w.heap.size w w1) :
    CountsPost zs w (.returned (.tuple #[.agg cs, .bool false])) w1 := ⟨cs, by rw [hc], fun h => (by rw [hc] at h; cases h), hs, ho, hb⟩
theorem counts_end {zs : List Int} {w w1 : World} {cs : Array Value} {b : Bool} (hc : countsOk zs = b) (hs : cs.size = 16) (ho : ∀ v ∈ cs.toList, v.oneCell' = true) (he : rowOf (cntv zs) 16 = cs) (hb : Below w.heap.size w w1) :
    CountsPost zs w (.returned (.tuple #[.agg cs, .bool b])) w1 := ⟨cs, by rw [hc], fun _ => he.symm, hs, ho, hb⟩
/-- The relation of the first loop. -/
def C1 (zs : List Int) (n : Nat) (w : World) (a i : Value) (wr : World) : Prop :=
  ∃ k : Nat, k ≤ n ∧ i = .int .i64 k ∧ a = .int .i64 (posn (zs.take k)) ∧ (zs.take k).all okLen = true ∧ Blk wr (w.heap.size + 1) 143 (rowOf (cntv (zs.take k)) 16) ∧
    (∃ cs : Array Value, Blk wr w.heap.size 143 cs ∧ cs.size = 16) ∧ Below w.heap.size w wr

theorem info16 : (Tryd.prog.info? 143).map (·.size) = some 16 := by kernel_rfl
theorem oneCell_rowI (f : Nat → Int) (n : Nat) : ∀ v ∈ (rowOf (fun i => Value.int .i64 (f i)) n).toList, v.oneCell' = true := by
  intro v hv
  simp [rowOf] at hv
  obtain ⟨i, _, rfl⟩ := hv
  rfl
theorem zeros16 : #[Value.int .i64 0, .int .i64 0, .int .i64 0, .int .i64 0, .int .i64 0, .int .i64 0, .int .i64 0, .int .i64 0, .int .i64 0, .int .i64 0, .int .i64 0, .int .i64 0, .int .i64 0, .int .i64 0, .int .i64 0, .int .i64 0] = rowOf (cntv []) 16 := by rfl

theorem countsOk_big {zs : List Int} (h : 288 < zs.length) : countsOk zs = false := by
  have : decide (zs.length ≤ 288) = false := by simp; omega
  simp [countsOk, this]
theorem countsOk_bad {zs : List Int} {k : Nat} (hk : k < zs.length) (h : zs.getD k 0 < 0 ∨ 15 < zs.getD k 0) : countsOk zs = false := by
  have hm : zs.getD k 0 ∈ zs := by simp [hk]
  have : zs.all okLen = false := by
    rw [List.all_eq_false]
    refine ⟨_, hm, ?_⟩
    simp only [okLen, Bool.and_eq_true, decide_eq_true_eq]
    omega
  simp [countsOk, this]
theorem leftsOk_le {zs : List Int} {l m : Nat} (h : leftsOk zs m = true) (hl : l ≤ m) : leftsOk zs l = true := by
  induction m with
  | zero => obtain rfl : l = 0 := by omega
            exact h
  | succ m ih =>
    simp only [leftsOk, Bool.and_eq_true] at h
    by_cases e : l = m + 1
    · subst e; simp only [leftsOk, Bool.and_eq_true]; exact h
    · exact ih h.1 (by omega)
theorem countsOk_left {zs : List Int} {l : Nat} (hl : l < 15) (h : leftAt zs (l + 1) < 0) : countsOk zs = false := by
  have : leftsOk zs 15 = false := by
    cases hh : leftsOk zs 15 with
    | false => rfl
    | true =>
      have := leftsOk_le (l := l + 1) hh (by omega)
      simp only [leftsOk, Bool.and_eq_true, decide_eq_true_eq] at this
      omega
  simp [countsOk, this]
theorem countsOk_end {zs : List Int} (hl : zs.length ≤ 288) (ho : zs.all okLen = true) (h : leftsOk zs 15 = true) :
    countsOk zs = (leftAt zs 15 == 0 || ((posn zs : Int) == 0 || ((posn zs : Int) == 1 && cntI zs 1 == 1))) := by
  have : decide (zs.length ≤ 288) = true := by simpa using hl
  simp [countsOk, this, ho, h]

theorem counts_cases (zs : List Int) :
    ((leftAt zs 15 == 0) = true ∧ (leftAt zs 15 == 0 || ((posn zs : Int) == 0 || ((posn zs : Int) == 1 && cntI zs 1 == 1))) = true) ∨
    ((leftAt zs 15 == 0) = false ∧ ((posn zs : Int) == 0) = true ∧ (leftAt zs 15 == 0 || ((posn zs : Int) == 0 || ((posn zs : Int) == 1 && cntI zs 1 == 1))) = true) ∨
    ((leftAt zs 15 == 0) = false ∧ ((posn zs : Int) == 0) = false ∧ ((posn zs : Int) == 1) = false ∧ (leftAt zs 15 == 0 || ((posn zs : Int) == 0 || ((posn zs : Int) == 1 && cntI zs 1 == 1))) = false) ∨
    ((leftAt zs 15 == 0) = false ∧ ((posn zs : Int) == 0) = false ∧ ((posn zs : Int) == 1) = true ∧ (cntI zs 1 == 1) = true ∧ (leftAt zs 15 == 0 || ((posn zs : Int) == 0 || ((posn zs : Int) == 1 && cntI zs 1 == 1))) = true) ∨
    ((leftAt zs 15 == 0) = false ∧ ((posn zs : Int) == 0) = false ∧ ((posn zs : Int) == 1) = true ∧ (cntI zs 1 == 1) = false ∧ (leftAt zs 15 == 0 || ((posn zs : Int) == 0 || ((posn zs : Int) == 1 && cntI zs 1 == 1))) = false) := by
  cases (leftAt zs 15 == 0) <;> cases ((posn zs : Int) == 0) <;> cases ((posn zs : Int) == 1) <;> cases (cntI zs 1 == 1) <;> simp

/-- The relation of the second loop: the world stands. -/
def C2 (zs : List Int) (l i : Value) : Prop := ∃ k : Nat, k ≤ 15 ∧ i = .int .i64 k ∧ l = .int .i64 (leftAt zs k) ∧ leftsOk zs k = true

set_option maxHeartbeats 800000 in
theorem counts_any (zs : List Int) (A : Option Addr) (n cap : Nat) (w : World) (hr : RdI .i64 w A n zs) (hn : n ≤ 4611686018427387904) :
    Calls Tryd.prog 86 #[.slice A n cap] w (CountsPost zs w) := by
  have HR := Lib.hid hr
  have HL := Lib.hid hr.1
  clear hr
  by_cases hbig : 288 < n
  · have hb : decide ((288 : Int) < n) = true := by simp; omega
    go_enter Tryd.func86, Tryd.ntmps86
    go_wp2_with (first
      | refine wpl_load_blk rfl 143 (.tmp 4) rfl (w.heap.size + 1) rfl 143 _ (Blk.made_at _ _ _ (by simp)) _ Tryd.underlying143 rfl 16 info16 rfl ?_
      | (refine wpl_store_blk rfl 143 (.tmp 2) (.tmp 14) rfl w.heap.size _ rfl rfl 143 _ ((Blk.made _ _ _).alloc _) 16 info16 rfl rfl (by decide) ?_; intro w1 hb1 hg1 hs1))
    refine bodyPost_ret (results_blk_tmp rfl _ w.heap.size rfl _ _ hb1 _ Tryd.underlying143 rfl 16 info16 rfl) rfl ?_
    refine counts_no (countsOk_big (by have := HL.out; omega)) rfl (by decide) ?_
    exact (((Below.refl _ _).alloc (Nat.le_refl _) _).alloc (by simp) _).grown hg1 (by simp; omega) (fun k hk => by injection hk; omega)
  · have hb : decide ((288 : Int) < n) = false := by simp; omega
    go_enter Tryd.func86, Tryd.ntmps86
    go_wp2
    go_loopw [5, 17] (C1 zs n w) (fun _ i _ => n - (intOf i).toNat)
    case atStart =>
      refine ⟨0, by omega, rfl, rfl, rfl, ?_, ⟨_, ((Blk.made _ _ _).alloc _), rfl⟩, ((Below.refl _ _).alloc (Nat.le_refl _) _).alloc (by simp) _⟩
      rw [zeros16]
      exact Blk.made_at _ _ _ (by simp)
    case round =>
      obtain ⟨k, hk, rfl, rfl, hok, hb1, ⟨cs0, hb0, hs0⟩, hbel⟩ := hrel
      have HB1 := Lib.hid hb1
      have HB0 := Lib.hid hb0
      have HBel := Lib.hid hbel
      have HOk := Lib.hid hok
      clear hb1 hb0 hbel hok
      by_cases hlt : k < n
      · obtain ⟨b, off, rfl, hblt, hz⟩ := HR.out.cell HBel.out hlt
        have hp1 : posn (zs.take k) ≤ k := Nat.le_trans (posn_le _) (List.length_take_le _ _)
        have HT := Lib.hid (take_snoc zs k (by have := HL.out; omega))
        have HZ : Hid (zs.getD k 0 < 0 ∨ 15 < zs.getD k 0 → countsOk zs = false) := fun h => countsOk_bad (by have := HL.out; omega) h
        generalize hzz : zs.getD k 0 = z at *
        clear hzz
        by_cases hneg : z < 0 ∨ 15 < z
        · have HC := Lib.hid (HZ hneg)
          have hs1 := Lib.hid (rowOf_size (cntv (zs.take k)) 16)
          have HO : Hid (∀ v ∈ (rowOf (cntv (zs.take k)) 16).toList, v.oneCell' = true) := oneCell_rowI _ _
          generalize rowOf (cntv (zs.take k)) 16 = cs1 at *
          rcases hneg with hneg | hneg
          · have hd : decide (z < 0) = true := by simpa using hneg
            go_wp2_with (first
              | refine wpl_load_blk rfl 143 (.tmp 4) rfl (w.heap.size + 1) rfl 143 _ HB1.out _ Tryd.underlying143 rfl 16 info16 hs1.out ?_
              | (refine wpl_store_blk rfl 143 (.tmp 2) (.tmp 27) rfl w.heap.size _ rfl rfl 143 _ HB0.out 16 info16 hs0 hs1.out HO.out ?_; intro w1 hb1 hg1 hs1'))
            refine bodyPost_ret (results_blk_tmp rfl _ w.heap.size rfl _ _ hb1 _ Tryd.underlying143 rfl 16 info16 hs1.out) rfl ?_
            exact counts_no HC.out hs1.out HO.out (HBel.out.grown hg1 HBel.out.size (fun k hk => by injection hk; omega))
          · have hd : decide (z < 0) = false := by simp; omega
            have hd2 : decide (15 < z) = true := by simpa using hneg
            go_wp2_with (first
              | refine wpl_load_blk rfl 143 (.tmp 4) rfl (w.heap.size + 1) rfl 143 _ HB1.out _ Tryd.underlying143 rfl 16 info16 hs1.out ?_
              | (refine wpl_store_blk rfl 143 (.tmp 2) (.tmp 27) rfl w.heap.size _ rfl rfl 143 _ HB0.out 16 info16 hs0 hs1.out HO.out ?_; intro w1 hb1 hg1 hs1'))
            refine bodyPost_ret (results_blk_tmp rfl _ w.heap.size rfl _ _ hb1 _ Tryd.underlying143 rfl 16 info16 hs1.out) rfl ?_
            exact counts_no HC.out hs1.out HO.out (HBel.out.grown hg1 HBel.out.size (fun k hk => by injection hk; omega))
        · clear HZ
          by_cases hpos : 0 < z
          · have hc1 := HB1.out.cell (rowOf_at (f := cntv (zs.take k)) (i := z.toNat) (n := 16) (by omega))
            have hf1 := HB1.out.free z.toNat
            unfold cntv at hc1
            have hcb := cntI_hi (zs.take k) z.toNat
            have hcl := cntI_lo (zs.take k) z.toNat
            have hlk : (zs.take k).length ≤ k := List.length_take_le _ _
            have h1 : ¬ z < 0 := by omega
            have h2 : ¬ 15 < z := by omega
            have h3 : z < 16 := by omega
            clear hneg
            go_wp2
            go_roundw
            case rel =>
              refine ⟨k + 1, by omega, by go_num, ?_, ?_, ?_, ?_, ?_⟩
              · rw [HT.out, posn_snoc, if_pos hpos]; go_num
              · rw [HT.out, List.all_append, HOk.out]; simp [okLen]; omega
              · rw [HT.out, ← cntI_step _ _ hpos (by omega)]
                exact HB1.out.put _ _
              · exact ⟨cs0, HB0.out.else_ (by simp) _, hs0⟩
              · exact HBel.out.setCell (by simp) _
            case measure => simp [intOf]; omega
          · have h1 : ¬ z < 0 := by omega
            have h2 : ¬ 15 < z := by omega
            clear hneg
            go_wp2
            go_roundw
            case rel =>
              refine ⟨k + 1, by omega, by go_num, ?_, ?_, ?_, ?_, ?_⟩
              · rw [HT.out, posn_snoc, if_neg hpos]; go_num
              · rw [HT.out, List.all_append, HOk.out]; simp [okLen]; omega
              · rw [HT.out, cntI_stay _ _ (by omega)]
                exact HB1.out
              · exact ⟨cs0, HB0.out, hs0⟩
              · exact HBel.out
            case measure => simp [intOf]; omega
      · obtain rfl : k = n := by omega
        have HK : Hid (zs.take k = zs) := List.take_of_length_le (by have := HL.out; omega)
        rw [HK.out] at HB1 HOk
        have hp1 : posn zs ≤ k := Nat.le_trans (posn_le _) (by have := HL.out; omega)
        have HP : Hid (posn (zs.take k) = posn zs) := by rw [HK.out]; rfl
        rw [HP.out]
        go_wp2
        go_loop [8, 40] (C2 zs) (fun _ i => 15 - (intOf i).toNat)
        case atStart => exact ⟨0, by omega, rfl, rfl, rfl⟩
        case round =>
          obtain ⟨j, hj, rfl, rfl, hlo⟩ := hrel
          have HLo := Lib.hid hlo
          clear hlo
          have hlb := leftAt_bd' zs (by have := HL.out; omega) j hj
          by_cases hj2 : j < 15
          · have hlb2 := leftAt_bd' zs (by have := HL.out; omega) (j + 1) (by omega)
            have HLS : Hid (leftAt zs (j + 1) = 2 * leftAt zs j - cntI zs (j + 1)) := rfl
            have hc1 := HB1.out.cell (rowOf_at (f := cntv zs) (i := 1 + j) (n := 16) (by omega))
            unfold cntv at hc1
            have hcb := cntI_hi zs (1 + j)
            have hcl := cntI_lo zs (1 + j)
            have hlk := HL.out
            by_cases hneg : leftAt zs (j + 1) < 0
            · have HC := Lib.hid (countsOk_left (zs := zs) hj2 hneg)
              have hs1 := Lib.hid (rowOf_size (cntv zs) 16)
              have HO : Hid (∀ v ∈ (rowOf (cntv zs) 16).toList, v.oneCell' = true) := oneCell_rowI _ _
              rw [HLS.out, Nat.add_comm j 1] at hneg
              go_wp2_with (first
                | refine wpl_load_blk rfl 143 (.tmp 4) rfl (w.heap.size + 1) rfl 143 _ HB1.out _ Tryd.underlying143 rfl 16 info16 hs1.out ?_
                | (refine wpl_store_blk rfl 143 (.tmp 2) (.tmp 50) rfl w.heap.size _ rfl rfl 143 _ HB0.out 16 info16 hs0 hs1.out HO.out ?_; intro w1 hb1 hg1 hs1'))
              refine bodyPost_ret (results_blk_tmp rfl _ w.heap.size rfl _ _ hb1 _ Tryd.underlying143 rfl 16 info16 hs1.out) rfl ?_
              exact counts_no HC.out hs1.out HO.out (HBel.out.grown hg1 HBel.out.size (fun k hk => by injection hk; omega))
            · have HN := Lib.hid hneg
              rw [HLS.out, Nat.add_comm j 1] at hneg
              go_wp2
              go_round
              case rel => exact ⟨j + 1, by omega, by go_num, by rw [HLS.out, Nat.add_comm j 1], by simp only [leftsOk, HLo.out, Bool.true_and]; simpa using HN.out⟩
              case measure => simp [intOf]; omega
          · obtain rfl : j = 15 := by omega
            have HC := Lib.hid (countsOk_end (zs := zs) (by have := HL.out; omega) HOk.out HLo.out)
            have hrg := HB1.out.range
            have hth := HB0.out.isThere 0 16 (by omega)
            have hc1 := HB1.out.cell (rowOf_at (f := cntv zs) (i := 1) (n := 16) (by omega))
            have hs1 : (rowOf (cntv zs) 16).toList.length = 16 := by simp [rowOf_size]
            have HO : ∀ v ∈ (rowOf (cntv zs) 16).toList, v.oneCell' = true := oneCell_rowI _ _
            unfold cntv at hc1
            have hcb := cntI_hi zs 1
            have hcl := cntI_lo zs 1
            have HRow : Hid (rowOf (cntv zs) 16 = (rowOf (cntv zs) 16).toList.toArray) := by simp [Hid]
            rw [HRow.out] at HB1
            generalize (rowOf (cntv zs) 16).toList = l1 at *
            have hu := Tryd.underlying143
            have hi : (Tryd.prog.info? 143).map (·.size) = some l1.length := by rw [hs1]; exact info16
            rcases counts_cases zs with ⟨h1, hf⟩ | ⟨h1, h2, hf⟩ | ⟨h1, h2, h3, hf⟩ | ⟨h1, h2, h3, h4, hf⟩ | ⟨h1, h2, h3, h4, hf⟩
            all_goals
              have HG := Lib.hid (HC.out.trans hf)
              clear hf
              go_wp2
              refine wp_region_qs (fun _ w' => w'.rangeAt (w.heap.size + 1) 0 l1 ∧ w'.cell? ⟨w.heap.size + 1, 1, none⟩ = some (.int .i64 (cntI zs 1)))
                [(0, some 0), (1, some 1), (2, some 1), (3, some 1), (4, some 1), (5, some 1), (6, some 1), (7, some 1), (8, some 1), (9, some 1), (10, some 0), (11, some 1), (12, some 1), (13, some 1), (14, some 1), (15, some 1), (16, none), (17, some 1)] (by kernel_rfl) (by kernel_rfl) (by kernel_rfl) (by kernel_rfl) (by kernel_rfl) (fun _ _ _ _ _ h => h) ⟨hrg, hc1⟩ ?_
              simp only [List.map_cons, List.map_nil, List.getD_cons_succ, List.getD_cons_zero]
              (repeat (first | (refine qs_row (by rfl) 143 (.tmp 4) rfl (w.heap.size + 1) 0 rfl l1 _ (fun _ w _ _ hS => hS.1) hu rfl hi ?_; simp only [Act.put, List.setIfInBounds_toArray, List.set_cons_zero, List.set_cons_succ]) | (refine qs_now (v := ?_) (by rfl) ?_ ?_; rotate_left 1; (· (intro w' hS; go_simp; (try (simp only [↓IntWalk.iteOmega]; go_simp)); (try simp (disch := omega) only [IntWalk.i64_in]); try with_reducible rfl)); simp only [Act.put, List.setIfInBounds_toArray, List.set_cons_zero, List.set_cons_succ]) | (refine qs_run (v := ?_) (by rfl) ?_ ?_; rotate_left 1; (· (intro j w' hS; go_simp; (try (simp only [↓IntWalk.iteOmega]; go_simp)); (try simp (disch := omega) only [IntWalk.i64_in]); try with_reducible rfl)); simp only [Act.put, List.setIfInBounds_toArray, List.set_cons_zero, List.set_cons_succ]) | (refine qs_skip (by rfl) ?_; simp only [Act.put, List.setIfInBounds_toArray, List.set_cons_zero, List.set_cons_succ])))
              refine qs_act ?_
              refine wpl_store_blk rfl 143 (.tmp 2) (.tmp 52) rfl w.heap.size l1.toArray rfl rfl 143 _ HB0.out.drew 16 info16 hs0 (by simpa using hs1) (by simpa using HO) ?_
              intro w1 hb1 hg1 hs1'
              refine wpList_nil ?_
              have hbb := HB1.out.drew.grown hg1 (by simp)
              refine ⟨⟨by simpa using hbb.range, (hbb.cellq 1).trans ((HB1.out.cellq 1).symm.trans hc1)⟩, ?_⟩
              (repeat (first | (refine qs_row (by rfl) 143 (.tmp 4) rfl (w.heap.size + 1) 0 rfl l1 _ (fun _ w _ _ hS => hS.1) hu rfl hi ?_; simp only [Act.put, List.setIfInBounds_toArray, List.set_cons_zero, List.set_cons_succ]) | (refine qs_now (v := ?_) (by rfl) ?_ ?_; rotate_left 1; (· (intro w' hS; go_simp; (try (simp only [↓IntWalk.iteOmega]; go_simp)); (try simp (disch := omega) only [IntWalk.i64_in]); try with_reducible rfl)); simp only [Act.put, List.setIfInBounds_toArray, List.set_cons_zero, List.set_cons_succ]) | (refine qs_run (v := ?_) (by rfl) ?_ ?_; rotate_left 1; (· (intro j w' hS; go_simp; (try (simp only [↓IntWalk.iteOmega]; go_simp)); (try simp (disch := omega) only [IntWalk.i64_in]); try with_reducible rfl)); simp only [Act.put, List.setIfInBounds_toArray, List.set_cons_zero, List.set_cons_succ]) | (refine qs_skip (by rfl) ?_; simp only [Act.put, List.setIfInBounds_toArray, List.set_cons_zero, List.set_cons_succ])))
              refine qs_nil ?_
              have HBB := Lib.hid hb1
              clear hbb hb1
              go_wp2
              refine bodyPost_ret (results_blk_tmp rfl _ w.heap.size rfl _ _ HBB.out _ Tryd.underlying143 rfl 16 info16 (by simpa using hs1)) rfl ?_
              exact counts_end HG.out (by simpa using hs1) (by simpa using HO) HRow.out (HBel.out.drew.grown hg1 HBel.out.size (fun k hk => by injection hk; omega))
end Go.Proofs.YtlhaehefhhcgaaaDoor
