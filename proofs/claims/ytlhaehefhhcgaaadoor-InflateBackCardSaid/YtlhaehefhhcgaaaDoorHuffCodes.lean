/-
  huff.firsts, huff.Codes: what they return for any lengths.
-/
import Derived.Test.YtlhaehefhhcgaaaDoorHuffCounts
import Derived.Test.YtlhaehefhhcgaaaDoorMem
namespace Go.Proofs.YtlhaehefhhcgaaaDoor
open Go.RowKit
set_option linter.unusedVariables false

def fstv (zs : List Int) (l : Nat) : Value := .int .i64 (firstAt zs l)
/-- What 'firsts' has laid out after l rounds. -/
def fstk (zs : List Int) (l i : Nat) : Value := .int .i64 (if i < l then firstAt zs i else 0)

theorem firstAt_bd (zs : List Int) (hz : zs.length ≤ 288) : ∀ l, l ≤ 16 → 0 ≤ firstAt zs l ∧ firstAt zs l + 576 ≤ 576 * 2 ^ l
  | 0, _ => by simp [firstAt]
  | l + 1, h => by
    obtain ⟨h1, h2⟩ := firstAt_bd zs hz l (by omega)
    have h3 := cntI_lo zs l
    have h4 := cntI_hi zs l
    have h5 : (2 : Int) ^ (l + 1) = 2 * 2 ^ l := by rw [Int.pow_succ]; omega
    simp only [firstAt]
    omega
theorem firstAt_bd' (zs : List Int) (hz : zs.length ≤ 288) (l : Nat) (hl : l ≤ 16) : 0 ≤ firstAt zs l ∧ firstAt zs l ≤ 37748736 := by
  obtain ⟨h1, h2⟩ := firstAt_bd zs hz l hl
  have h3 : (2 : Int) ^ l ≤ 2 ^ 16 := by
    have : (2 : Nat) ^ l ≤ 2 ^ 16 := Nat.pow_le_pow_right (by omega) hl
    exact_mod_cast this
  have : (2 : Int) ^ 16 = 65536 := by decide
  omega
theorem fstk_step (zs : List Int) (l : Nat) (hl : l < 16) : (rowOf (fstk zs l) 16).setIfInBounds l (.int .i64 (firstAt zs l)) = rowOf (fstk zs (l + 1)) 16 := by
  rw [rowOf_set _ hl]
  apply rowOf_congr
  intro i hi
  unfold fstk
  by_cases h : i = l
  · subst h; simp
  · rw [if_neg h]
    by_cases h2 : i < l
    · rw [if_pos h2, if_pos (by omega)]
    · rw [if_neg h2, if_neg (by omega)]
theorem fstk_zero (zs : List Int) : #[Value.int .i64 0, .int .i64 0, .int .i64 0, .int .i64 0, .int .i64 0, .int .i64 0, .int .i64 0, .int .i64 0, .int .i64 0, .int .i64 0, .int .i64 0, .int .i64 0, .int .i64 0, .int .i64 0, .int .i64 0, .int .i64 0] = rowOf (fstk zs 1) 16 := by
  rw [zeros16]
  apply rowOf_congr
  intro i _
  unfold fstk cntv cntI cnt
  by_cases h : i < 1
  · rw [if_pos h]; obtain rfl : i = 0 := by omega
    rfl
  · rw [if_neg h]; simp
theorem fstk_all (zs : List Int) : rowOf (fstk zs 16) 16 = rowOf (fstv zs) 16 := by
  apply rowOf_congr
  intro i hi
  unfold fstk fstv
  rw [if_pos hi]

def FirstsPost (zs : List Int) (w : World) (e : Ending) (w' : World) : Prop :=
  e = .returned (.agg (rowOf (fstv zs) 16)) ∧ Below w.heap.size w w'

def F1 (zs : List Int) (w : World) (c i : Value) (wr : World) : Prop :=
  ∃ k : Nat, 1 ≤ k ∧ k ≤ 16 ∧ i = .int .i64 k ∧ c = .int .i64 (firstAt zs (k - 1) + cntI zs (k - 1)) ∧ Blk wr w.heap.size 143 (rowOf (cntv zs) 16) ∧
    Blk wr (w.heap.size + 2) 143 (rowOf (fstk zs k) 16) ∧ (∃ cs : Array Value, Blk wr (w.heap.size + 1) 143 cs ∧ cs.size = 16) ∧ Below w.heap.size w wr

set_option maxHeartbeats 800000 in
theorem firsts_any (zs : List Int) (w : World) (hz : zs.length ≤ 288) :
    Calls Tryd.prog 87 #[.agg (rowOf (cntv zs) 16)] w (FirstsPost zs w) := by
  have hs1 := Lib.hid (rowOf_size (cntv zs) 16)
  generalize hcs : rowOf (cntv zs) 16 = cs1 at *
  have HCS := Lib.hid hcs
  clear hcs
  go_enter Tryd.func87, Tryd.ntmps87
  go_wp2
  go_loopw [4, 5] (F1 zs w) (fun _ i _ => 16 - (intOf i).toNat)
  case atStart =>
    refine ⟨1, by omega, by omega, rfl, by simp [firstAt, cntI], ?_, ?_, ⟨_, ((Blk.made_at _ _ _ (by simp)).alloc _), rfl⟩, (((Below.refl _ _).alloc (Nat.le_refl _) _).alloc (by simp) _).alloc (by simp; omega) _⟩
    · rw [HCS.out]; exact ((Blk.made _ _ _).alloc _).alloc _
    · rw [fstk_zero zs]; exact Blk.made_at _ _ _ (by simp)
  case round =>
    obtain ⟨k, hk1, hk, rfl, rfl, hb0, hb2, ⟨cs2, hb1, hs2⟩, hbel⟩ := hrel
    have HB0 := Lib.hid hb0
    have HB1 := Lib.hid hb1
    have HB2 := Lib.hid hb2
    have HBel := Lib.hid hbel
    clear hb0 hb1 hb2 hbel
    by_cases hlt : k ≤ 15
    · have hc0 := HB0.out.cell (rowOf_at (f := cntv zs) (i := k) (n := 16) (by omega))
      unfold cntv at hc0
      have hc2 := HB2.out.cell (rowOf_at (f := fstk zs k) (i := k) (n := 16) (by omega))
      unfold fstk at hc2
      have hf2 := HB2.out.free k
      have hcb := cntI_hi zs k
      have hcl := cntI_lo zs k
      have hcb' := cntI_hi zs (k - 1)
      have hcl' := cntI_lo zs (k - 1)
      have hfb := firstAt_bd' zs hz (k - 1) (by omega)
      have HFS : Hid (firstAt zs k = 2 * (firstAt zs (k - 1) + cntI zs (k - 1))) := by
        obtain ⟨m, rfl⟩ : ∃ m, k = m + 1 := ⟨k - 1, by omega⟩
        rfl
      have hk16 : (k : Int) < 16 := by omega
      go_wp2
      go_roundw
      case rel =>
        refine ⟨k + 1, by omega, by omega, by go_num, ?_, ?_, ?_, ⟨cs2, HB1.out.else_ (by simp) _, hs2⟩, HBel.out.setCell (by simp; omega) _⟩
        · rw [Nat.add_sub_cancel, HFS.out]
          congr 1; omega
        · exact HB0.out.else_ (by simp; omega) _
        · rw [← fstk_step zs k (by omega), HFS.out, Int.mul_comm]
          exact HB2.out.put _ _
      case measure => simp [intOf]; omega
    · obtain rfl : k = 16 := by omega
      have hs3 := Lib.hid (rowOf_size (fstv zs) 16)
      have HO : Hid (∀ v ∈ (rowOf (fstv zs) 16).toList, v.oneCell' = true) := oneCell_rowI _ _
      rw [fstk_all] at HB2
      go_wp2_with (first
        | refine wpl_load_blk rfl 143 (.tmp 3) rfl (w.heap.size + 2) rfl 143 _ HB2.out _ Tryd.underlying143 rfl 16 info16 hs3.out ?_
        | (refine wpl_store_blk rfl 143 (.tmp 2) (.tmp 20) rfl (w.heap.size + 1) _ rfl rfl 143 _ HB1.out 16 info16 hs2 hs3.out HO.out ?_; intro w1 hb1 hg1 hs1'))
      refine bodyPost_ret (results_blk rfl _ (w.heap.size + 1) rfl _ _ hb1 _ Tryd.underlying143 rfl 16 info16 hs3.out) rfl ?_
      exact ⟨rfl, HBel.out.grown hg1 HBel.out.size (fun k hk => by injection hk; omega)⟩

/-! ### Codes -/
/-- The code of symbol i. -/
def codeAt (zs : List Int) (i : Nat) : Int := if 0 < zs.getD i 0 then firstAt zs (zs.getD i 0).toNat + cnt (zs.take i) (zs.getD i 0).toNat else 0
def codesOf (zs : List Int) : List Int := (List.range zs.length).map (codeAt zs)
/-- 'next' after k symbols. -/
def nextk (zs : List Int) (k l : Nat) : Value := .int .i64 (firstAt zs l + cntI (zs.take k) l)

theorem nextk_zero (zs : List Int) : rowOf (fstv zs) 16 = rowOf (nextk zs 0) 16 := by
  apply rowOf_congr
  intro i _
  simp [fstv, nextk, cntI, cnt]
theorem nextk_step (zs : List Int) (k : Nat) (hk : k < zs.length) (hz : 0 < zs.getD k 0) (hz2 : zs.getD k 0 ≤ 15) :
    (rowOf (nextk zs k) 16).setIfInBounds (zs.getD k 0).toNat (.int .i64 (firstAt zs (zs.getD k 0).toNat + cntI (zs.take k) (zs.getD k 0).toNat + 1)) = rowOf (nextk zs (k + 1)) 16 := by
  rw [rowOf_set _ (by omega)]
  apply rowOf_congr
  intro i hi
  unfold nextk
  rw [take_snoc zs k hk]
  unfold cntI
  rw [cnt_snoc]
  by_cases h : i = (zs.getD k 0).toNat
  · have h0 : i ≠ 0 := by omega
    have h1 : zs.getD k 0 = (i : Int) := by omega
    rw [if_pos h, ← h, if_neg h0, if_neg h0, if_pos h1]
    congr 1; omega
  · rw [if_neg h]
    by_cases h0 : i = 0
    · simp [h0]
    · rw [if_neg h0, if_neg h0, if_neg (by omega), Nat.add_zero]
theorem nextk_stay (zs : List Int) (k : Nat) (hk : k < zs.length) (hz : zs.getD k 0 = 0) : rowOf (nextk zs (k + 1)) 16 = rowOf (nextk zs k) 16 := by
  apply rowOf_congr
  intro i hi
  unfold nextk
  rw [take_snoc zs k hk]
  unfold cntI
  rw [cnt_snoc]
  by_cases h : i = 0
  · simp [h]
  · rw [if_neg h, if_neg h, if_neg (by omega), Nat.add_zero]
/-- The row 'out' after k symbols. -/
def outk (zs : List Int) (k i : Nat) : Int := if i < k then codeAt zs i else 0
theorem outk_zero (zs : List Int) (n : Nat) : List.replicate n (Value.int .i64 0) = (List.range n).map fun i => Value.int .i64 (outk zs 0 i) := by
  apply List.ext_getElem
  · simp
  · intro i h1 h2; simp [outk]
theorem outk_step (zs : List Int) (n k : Nat) (v : Int) (hv : v = codeAt zs k) (hk : k < n) :
    ((List.range n).map fun i => Value.int .i64 (outk zs k i)).set k (.int .i64 v) = (List.range n).map fun i => Value.int .i64 (outk zs (k + 1) i) := by
  apply List.ext_getElem
  · simp
  · intro i h1 h2
    rw [List.getElem_set]
    simp only [List.getElem_map, List.getElem_range]
    unfold outk
    by_cases h : k = i
    · subst h; rw [if_pos rfl, if_pos (by omega), hv]
    · rw [if_neg h]
      by_cases h2 : i < k
      · rw [if_pos h2, if_pos (by omega)]
      · rw [if_neg h2, if_neg (by omega)]
theorem outk_stay (zs : List Int) (n k : Nat) (hz : ¬ 0 < zs.getD k 0) :
    ((List.range n).map fun i => Value.int .i64 (outk zs (k + 1) i)) = (List.range n).map fun i => Value.int .i64 (outk zs k i) := by
  apply List.map_congr_left
  intro i _
  unfold outk
  by_cases h : i = k
  · subst h; rw [if_pos (by omega), if_neg (by omega)]; unfold codeAt; rw [if_neg hz]
  · by_cases h2 : i < k
    · rw [if_pos h2, if_pos (by omega)]
    · rw [if_neg h2, if_neg (by omega)]
theorem outk_all (zs : List Int) : ((List.range zs.length).map fun i => Value.int .i64 (outk zs zs.length i)) = (codesOf zs).map (Value.int .i64) := by
  unfold codesOf
  rw [List.map_map]
  apply List.map_congr_left
  intro i hi
  have : i < zs.length := by simpa using hi
  simp [outk, this]

/-- What 'Codes' returns. -/
def CodesPost (zs : List Int) (n : Nat) (w : World) (e : Ending) (w' : World) : Prop :=
  (countsOk zs = false ∧ e = .returned (.tuple #[.slice none 0 0, .int .i64 2]) ∧ Below w.heap.size w w') ∨
  (countsOk zs = true ∧ ∃ A c, e = .returned (.tuple #[.slice A n c, .int .i64 0]) ∧ w'.ownsRow w.heap.size 3 1 (.slice A n c) n ((codesOf zs).map (Value.int .i64)) ∧ Below w.heap.size w w')


theorem okLen_of {zs : List Int} (h : countsOk zs = true) {k : Nat} (hk : k < zs.length) : 0 ≤ zs.getD k 0 ∧ zs.getD k 0 ≤ 15 := by
  have h1 : zs.all okLen = true := by
    simp only [countsOk, Bool.and_eq_true] at h
    exact h.1.1.2
  have := List.all_eq_true.1 h1 (zs.getD k 0) (by simp [hk])
  simpa [okLen] using this
theorem len_of {zs : List Int} (h : countsOk zs = true) : zs.length ≤ 288 := by
  simp only [countsOk, Bool.and_eq_true, decide_eq_true_eq] at h
  exact h.1.1.1

def D1 (zs : List Int) (n : Nat) (w : World) (g6 g7 : Nat) (i : Value) (wr : World) : Prop :=
  ∃ k : Nat, k ≤ n ∧ i = .int .i64 k ∧ Blk wr g6 143 (rowOf (nextk zs k) 16) ∧
    wr.ownsRow w.heap.size 3 1 (.slice (some ⟨g7, 0, none⟩) n n) n ((List.range n).map fun i => Value.int .i64 (outk zs k i)) ∧ Below w.heap.size w wr

theorem codes_no {zs : List Int} {n : Nat} {w w1 : World} (h : countsOk zs = false) (hb : Below w.heap.size w w1) : CodesPost zs n w (.returned (.tuple #[.slice none 0 0, .int .i64 2])) w1 := .inl ⟨h, rfl, hb⟩
theorem codes_yes {zs : List Int} {n : Nat} {w w1 : World} {A : Option Addr} {c : Nat} (h : countsOk zs = true) (ho : w1.ownsRow w.heap.size 3 1 (.slice A n c) n ((codesOf zs).map (Value.int .i64))) (hb : Below w.heap.size w w1) :
    CodesPost zs n w (.returned (.tuple #[.slice A n c, .int .i64 0])) w1 := .inr ⟨h, A, c, rfl, ho, hb⟩

set_option maxHeartbeats 800000 in
theorem codes_any (zs : List Int) (A : Option Addr) (n cap : Nat) (w : World) (hr : RdI .i64 w A n zs) (hn : n ≤ 4611686018427387904) :
    Calls Tryd.prog 41 #[.slice A n cap] w (CodesPost zs n w) := by
  have HR := Lib.hid hr
  have HL := Lib.hid hr.1
  clear hr
  go_enter Tryd.func41, Tryd.ntmps41
  go_wp2_with fail
  refine (counts_any zs A n cap w HR.out hn).mono ?_
  rintro e w1 ⟨cs1, rfl, hcs, hs1, ho1, hb1⟩
  have HO1 := Lib.hid ho1
  clear ho1
  have HB1 := Lib.hid hb1
  clear hb1
  cases hok : countsOk zs with
  | false =>
    have HOk := Lib.hid hok
    clear hok hcs
    go_wp2_with (refine wpl_store_any_cells rfl 143 (.tmp 4) (.tmp 13) rfl w1.heap.size _ rfl rfl 143 _ (Blk.made _ _ _) 16 info16 rfl hs1 HO1.out ?_; intro w2 hg2)
    go_ret2
    exact codes_no HOk.out ((HB1.out.alloc HB1.out.size _).grown hg2 (by simp; have := HB1.out.size; omega) (fun k hk => by injection hk with hk; have := HB1.out.size; omega))
  | true =>
    obtain rfl := hcs hok
    have HOk := Lib.hid hok
    have hn288 := len_of hok
    rw [HL.out] at hn288
    clear hok hcs hs1
    have hs2 := Lib.hid (rowOf_size (cntv zs) 16)
    have HO2 : Hid (∀ v ∈ (rowOf (cntv zs) 16).toList, v.oneCell' = true) := oneCell_rowI _ _
    have hs3 := Lib.hid (rowOf_size (fstv zs) 16)
    have HO3 : Hid (∀ v ∈ (rowOf (fstv zs) 16).toList, v.oneCell' = true) := oneCell_rowI _ _
    go_wp2_with (first
      | (refine wpl_store_blk rfl 143 (.tmp 4) (.tmp 13) rfl w1.heap.size _ rfl rfl 143 _ (Blk.made _ _ _) 16 info16 rfl hs2.out HO2.out ?_; intro w2 hb2 hg2 hs2'; have HB2 := Lib.hid hb2; have HL2 := Lib.hid (bl_ag HB1.out hg2); clear hb2 hg2 hs2')
      | (refine wpl_load_blk rfl 143 (.tmp 4) rfl w1.heap.size rfl 143 _ HB2.out _ Tryd.underlying143 rfl 16 info16 hs2.out ?_)
      | (go_at_call 87; refine (firsts_any zs _ (by rw [HL.out]; exact hn288)).mono ?_; rintro e w3 ⟨rfl, hb3⟩; have HL3 := Lib.hid (below_chain HL2.out hb3); clear hb3)
      | (refine wpl_store_blk rfl 143 (.tmp 6) (.tmp 18) rfl w3.heap.size _ rfl rfl 143 _ (Blk.made _ _ _) 16 info16 rfl hs3.out HO3.out ?_; intro w4 hb4 hg4 hs4'; have HB4 := Lib.hid hb4; have HL4 := Lib.hid (bl_ag HL3.out hg4); clear hb4 hg4 hs4')
      | (refine mk_ints rfl (.tmp 20) (.tmp 20) rfl w.heap.size n _ _ rfl rfl rfl rfl (by omega) HL4.out.size ?_; intro w5 ho5 hg5; have HO5 := Lib.hid ho5; have HB5 := Lib.hid (HB4.out.grown hg5 (by simp)); have HL5 := Lib.hid (bl_n HL4.out hg5); clear ho5 hg5))
    have hg67 : w3.heap.size < w4.heap.size := HB4.out.lt
    have hgw : w.heap.size ≤ w3.heap.size := HL3.out.size
    go_loopw [24] (D1 zs n w w3.heap.size w4.heap.size) (fun i _ => n - (intOf i).toNat)
    case atStart =>
      refine ⟨0, by omega, rfl, ?_, ?_, HL5.out⟩
      · rw [← nextk_zero]; exact HB5.out
      · rw [← outk_zero]; exact HO5.out
    case round =>
      obtain ⟨k, hk, rfl, hb6, ho7, hbel⟩ := hrel
      have HB6 := Lib.hid hb6
      have HO7 := Lib.hid ho7
      have HBel := Lib.hid hbel
      clear hb6 ho7 hbel
      by_cases hlt : k < n
      · obtain ⟨b, off, rfl, hblt, hz⟩ := HR.out.cell HBel.out hlt
        have hkl : k < zs.length := by have := HL.out; omega
        have hz15 := okLen_of HOk.out hkl
        have HNS := Lib.hid (nextk_step zs k hkl)
        have HNT := Lib.hid (nextk_stay zs k hkl)
        have HCode : Hid (codeAt zs k = if 0 < zs.getD k 0 then firstAt zs (zs.getD k 0).toNat + cnt (zs.take k) (zs.getD k 0).toNat else 0) := rfl
        have HOS := Lib.hid (outk_stay zs n k)
        generalize zs.getD k 0 = z at *
        by_cases hpos : 0 < z
        · have hc6 := HB6.out.cell (rowOf_at (f := nextk zs k) (i := z.toNat) (n := 16) (by omega))
          unfold nextk at hc6
          have hf6 := HB6.out.free z.toNat
          have hcb := cntI_hi (zs.take k) z.toNat
          have hcl := cntI_lo (zs.take k) z.toNat
          have hlk : (zs.take k).length ≤ k := List.length_take_le _ _
          have hfb := firstAt_bd' zs (by have := HL.out; omega) z.toNat (by omega)
          have hc7 := HO7.out.cellAt k (by omega)
          have hf7 := HO7.out.frozenAt k
          rw [List.getElem?_map, List.getElem?_range hlt, Option.map_some] at hc7
          have h3 : z < 16 := by omega
          have hne : w4.heap.size ≠ w3.heap.size := by omega
          have hne2 : w3.heap.size ≠ w4.heap.size := by omega
          go_wp2
          go_roundw
          case rel =>
            refine ⟨k + 1, by omega, by go_num, ?_, ?_, ?_⟩
            · rw [← HNS.out hpos (by omega)]
              exact (HB6.out.else_ hne2 _).put _ _
            · rw [← outk_step zs n k (firstAt zs z.toNat + cntI (zs.take k) z.toNat) (by rw [HCode.out, if_pos hpos, cntI, if_neg (by omega)]) hlt]
              exact own_else (HO7.out.stored k _).1 hne2 _
            · exact (HBel.out.setCell (by simp; omega) _).setCell (by simp; omega) _
          case measure => simp [intOf]; omega
        · go_wp2
          go_roundw
          case rel =>
            exact ⟨k + 1, by omega, by go_num, by rw [HNT.out (by omega)]; exact HB6.out, by rw [HOS.out hpos]; exact HO7.out, HBel.out⟩
          case measure => simp [intOf]; omega
      · obtain rfl : k = n := by omega
        go_wp2
        go_ret2
        refine codes_yes HOk.out ?_ HBel.out
        have h := HO7.out
        rw [← HL.out] at h ⊢
        rw [outk_all] at h
        exact h
end Go.Proofs.YtlhaehefhhcgaaaDoor
