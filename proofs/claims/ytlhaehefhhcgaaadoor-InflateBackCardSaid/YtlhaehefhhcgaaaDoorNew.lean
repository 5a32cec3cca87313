/-
  huff.New: the decoder of lengths.
-/
import Derived.Test.YtlhaehefhhcgaaaDoorHuffCodes
import Derived.Test.YtlhaehefhhcgaaaDoorPairs
import Derived.Test.YtlhaehefhhcgaaaDoorMem
namespace Go.Proofs.YtlhaehefhhcgaaaDoor
open Go.RowKit
set_option linter.unusedVariables false

/-- The symbols of length l, rising. -/
def symL (zs : List Int) (l : Nat) : List Int := ((List.range zs.length).filter fun j => zs.getD j 0 == (l : Int)).map fun j : Nat => (j : Int)
theorem filter_same {α : Type} {f g : α → Bool} {l : List α} (h : ∀ x ∈ l, f x = g x) : l.filter f = l.filter g := List.filter_congr h
theorem symL_snoc (zs : List Int) (z : Int) (l : Nat) : symL (zs ++ [z]) l = symL zs l ++ if z = (l : Int) then [(zs.length : Int)] else [] := by
  unfold symL
  rw [List.length_append, List.length_singleton, List.range_succ, List.filter_append, List.map_append]
  congr 1
  · congr 1
    apply filter_same
    intro j hj
    have hj' : j < zs.length := by simpa using hj
    simp [List.getElem?_append_left hj']
  · by_cases h : z = (l : Int) <;> simp [h]
theorem symL_len (zs : List Int) (l : Nat) : (symL zs l).length = cnt zs l := by
  have key : ∀ k, k ≤ zs.length → (symL (zs.take k) l).length = cnt (zs.take k) l := by
    intro k
    induction k with
    | zero => intro _; simp [symL, cnt]
    | succ k ih =>
      intro hk
      rw [take_snoc zs k (by omega), symL_snoc, cnt_snoc, List.length_append, ih (by omega)]
      split <;> simp
  have := key zs.length (Nat.le_refl _)
  rwa [List.take_length] at this
def maxL (zs : List Int) : Int := zs.foldl max 0
theorem maxL_snoc (zs : List Int) (z : Int) : maxL (zs ++ [z]) = max (maxL zs) z := by simp [maxL]

/-- The cells of a decoder. -/
def decC (zs : List Int) (vs : Nat → Value) (most : Int) (i : Nat) : Value :=
  if i < 16 then cntv zs i else if i < 32 then fstv zs (i - 16) else if i < 48 then vs (i - 32) else if i = 48 then .int .i64 most else .bool true
/-- A decoder of lengths zs lies in block g. -/
def DecOk (w : World) (g : Nat) (zs : List Int) : Prop :=
  ∃ vs : Nat → Value, Blk w g 154 (rowOf (decC zs vs (maxL zs)) 50) ∧ ∀ l, 1 ≤ l → l ≤ 15 → w.ownsRow 0 3 1 (vs l) (cnt zs l) ((symL zs l).map (Value.int .i64))
def NewPost (zs : List Int) (w : World) (e : Ending) (w' : World) : Prop :=
  ((countsOk zs = false ∧ e = .returned (.pointer none)) ∨ (countsOk zs = true ∧ ∃ g, e = .returned (.pointer (some ⟨g, 0, none⟩)) ∧ w.heap.size ≤ g ∧ DecOk w' g zs)) ∧ Below w.heap.size w w'

def decZ (zs : List Int) : Array Value := rowOf (decC zs (fun _ => .slice none 0 0) 0) 50
theorem built_dec (zs : List Int) : Tryd.prog.built 154 [(0, .agg (rowOf (cntv zs) 16)), (1, .agg (rowOf (fstv zs) 16)), (4, .bool true)] = some (decZ zs) := by kernel_rfl
section
variable {P : Program} {l : List Oper} {Q : Exit → Act → World → Prop} {S : Nat → World → Prop}
theorem qs_build {o : Oper} {r : List (Oper × Option Nat)} {k m : Nat} {a : Act} {w : World} (hw : Region.wanted o (yielded l.toArray a.tmps) = true) (t : TypeId) (parts : Array (Nat × Operand)) (ho : o.op = .build t parts)
    (cells : Array Value) (hf : P.built t (parts.map fun (i, x) => (i, a.eval x)).toList = some cells) (h : wpQs P l Q S r k (a.put o.dst (.agg cells)) w) : wpQs P l Q S ((o, some m) :: r) k a w :=
  ⟨_, .inl ⟨hw, fun w' _ => by
    unfold execOp
    simp only [ho, Sem.run_bind, run_build w' t _ cells hf, Result.andThen_ok]
    rfl⟩, h⟩
end

theorem foldl_max (zs : List Int) : ∀ m : Int, m ≤ zs.foldl max m ∧ (∀ b, m ≤ b → (∀ z ∈ zs, z ≤ b) → zs.foldl max m ≤ b) := by
  induction zs with
  | nil => intro m; exact ⟨Int.le_refl _, fun b h _ => h⟩
  | cons z zs ih =>
    intro m
    have := ih (max m z)
    exact ⟨by have := this.1; simp only [List.foldl_cons]; omega, fun b h1 h2 => this.2 b (by have := h2 z (by simp); omega) (fun y hy => h2 y (by simp [hy]))⟩
theorem maxL_lo (zs : List Int) : 0 ≤ maxL zs := (foldl_max zs 0).1
theorem maxL_hi {zs : List Int} (h : countsOk zs = true) (k : Nat) : maxL (zs.take k) ≤ 15 := (foldl_max _ 0).2 15 (by omega) (fun z hz => by
  obtain ⟨i, hi, rfl⟩ := List.getElem_of_mem (List.mem_of_mem_take hz)
  have := (okLen_of h hi).2
  simpa [hi] using this)
theorem decC_row (zs : List Int) (vs : Nat → Value) (m : Int) {l : Nat} (h : l < 16) : decC zs vs m (32 + l) = vs l := by
  unfold decC
  rw [if_neg (by omega), if_neg (by omega), if_pos (by omega), show 32 + l - 32 = l from by omega]
theorem own_from0 {w : World} {base : Nat} {e : TypeId} {size n : Nat} {v : Value} {xs : List Value} (h : w.ownsRow base e size v n xs) : w.ownsRow 0 e size v n xs :=
  ⟨h.1, h.2.imp id (fun ⟨a, b, c, d, _, f⟩ => ⟨a, b, c, d, Nat.zero_le _, f⟩)⟩
theorem dec_apart {w : World} {g : Nat} {cs : Array Value} {base n : Nat} {v : Value} {xs : List Value} (hb : Blk w g 154 cs) (h : w.ownsRow base 3 1 v n xs) : some g ≠ v.ownBlock := by
  intro he
  rcases h.2 with ⟨rfl, _⟩ | ⟨g', cap, cur, rfl, _, hg, _⟩
  · simp [Value.ownBlock] at he
  · simp only [Value.ownBlock, Option.some.injEq] at he
    subst he
    unfold Blk at hb
    rw [hg] at hb
    injection hb with hb
    injection hb with _ ht
    exact absurd ht (by decide)
def NewR (zs : List Int) (n : Nat) (w : World) (g : Nat) (i : Value) (wr : World) : Prop :=
  ∃ (k : Nat) (vs : Nat → Value), k ≤ n ∧ i = .int .i64 k ∧ Blk wr g 154 (rowOf (decC zs vs (maxL (zs.take k))) 50) ∧
    (∀ l, 1 ≤ l → l ≤ 15 → wr.ownsRow w.heap.size 3 1 (vs l) (cnt (zs.take k) l) ((symL (zs.take k) l).map (Value.int .i64))) ∧
    (∀ l l', 1 ≤ l → l ≤ 15 → 1 ≤ l' → l' ≤ 15 → l ≠ l' → (vs l).ownBlock = none ∨ (vs l).ownBlock ≠ (vs l').ownBlock) ∧ Below w.heap.size w wr

set_option maxRecDepth 100000 in
set_option maxHeartbeats 1600000 in
theorem new_any (zs : List Int) (A : Option Addr) (n cap : Nat) (w : World) (hr : RdI .i64 w A n zs) (hn : n ≤ 4611686018427387904) :
    Calls Tryd.prog 57 #[.slice A n cap] w (NewPost zs w) := by
  have HR := Lib.hid hr
  have HL := Lib.hid hr.1
  clear hr
  go_enter Tryd.func57, Tryd.ntmps57
  go_wp2_with fail
  refine (counts_any zs A n cap w HR.out hn).mono ?_
  rintro e w1 ⟨cs1, rfl, hcs, hs1, ho1, hb1⟩
  have HO1 := Lib.hid ho1
  have HB1 := Lib.hid hb1
  clear hb1 ho1
  cases hok : countsOk zs with
  | false =>
    have HOk := Lib.hid hok
    clear hok hcs
    go_wp2_with (refine wpl_store_any_cells rfl 143 (.tmp 3) (.tmp 11) rfl w1.heap.size _ rfl rfl 143 _ (Blk.made _ _ _) 16 info16 rfl hs1 HO1.out ?_; intro w2 hg2; have HL2 := Lib.hid (bl_ag HB1.out hg2); clear hg2)
    go_ret
    exact ⟨.inl ⟨HOk.out, rfl⟩, HL2.out⟩
  | true =>
    obtain rfl := hcs hok
    have HOk := Lib.hid hok
    have hn288 := len_of hok
    rw [HL.out] at hn288
    clear hok hcs hs1
    have hs2 := Lib.hid (rowOf_size (cntv zs) 16)
    have HO2 : Hid (∀ v ∈ (rowOf (cntv zs) 16).toList, v.oneCell' = true) := oneCell_rowI _ _
    go_wp2_with (first
      | (refine wpl_store_blk rfl 143 (.tmp 3) (.tmp 11) rfl w1.heap.size _ rfl rfl 143 _ (Blk.made _ _ _) 16 info16 rfl hs2.out HO2.out ?_; intro w2 hb2 hg2 hs2'; have HB2 := Lib.hid hb2; have HL2 := Lib.hid (bl_ag HB1.out hg2); clear hb2 hg2 hs2')
      | fail)
    have hrg := HB2.out.range
    have hi : (Tryd.prog.info? 143).map (·.size) = some (rowOf (cntv zs) 16).toList.length := by simp [rowOf_size, info16]
    have hu := Tryd.underlying143
    have hg1 := HB2.out.lt
    refine wp_region_qs (fun _ w' => w'.rangeAt w1.heap.size 0 (rowOf (cntv zs) 16).toList) [(0, some 2), (1, some 1), (2, none), (3, some 1), (4, none), (5, some 2)] (by kernel_rfl) (by kernel_rfl) (by kernel_rfl) (by kernel_rfl) (by kernel_rfl) (fun _ _ _ _ _ h => h) hrg ?_
    simp only [List.map_cons, List.map_nil, List.getD_cons_succ, List.getD_cons_zero]
    (repeat (first | (refine qs_row (by rfl) 143 (.tmp 3) rfl w1.heap.size 0 rfl (rowOf (cntv zs) 16).toList _ (fun _ w _ _ hS => hS) hu rfl hi ?_; simp only [Act.put, List.setIfInBounds_toArray, List.set_cons_zero, List.set_cons_succ]) | (refine qs_now (v := ?_) (by rfl) ?_ ?_; rotate_left 1; (· (intro w' hS; go_simp; (try (simp only [↓IntWalk.iteOmega]; go_simp)); (try simp (disch := omega) only [IntWalk.i64_in]); try with_reducible rfl)); simp only [Act.put, List.setIfInBounds_toArray, List.set_cons_zero, List.set_cons_succ]) | (refine qs_run (v := ?_) (by rfl) ?_ ?_; rotate_left 1; (· (intro j w' hS; go_simp; (try (simp only [↓IntWalk.iteOmega]; go_simp)); (try simp (disch := omega) only [IntWalk.i64_in]); try with_reducible rfl)); simp only [Act.put, List.setIfInBounds_toArray, List.set_cons_zero, List.set_cons_succ]) | (refine qs_skip (by rfl) ?_; simp only [Act.put, List.setIfInBounds_toArray, List.set_cons_zero, List.set_cons_succ])))
    refine qs_act ?_
    rw [Array.toArray_toList]
    go_wp2_with (go_at_call 87; refine (firsts_any zs _ (by rw [HL.out]; exact hn288)).mono ?_; rintro e w3 ⟨rfl, hb3⟩)
    have HL3 := Lib.hid (below_chain HL2.out.drew hb3)
    have HB3 := Lib.hid (HB2.out.drew.below hb3 hg1)
    clear hb3
    refine ⟨HB3.out.range, ?_⟩
    refine qs_build (by rfl) _ _ rfl (decZ zs) (by kernel_rfl) ?_
    simp only [Act.put, List.setIfInBounds_toArray, List.set_cons_zero, List.set_cons_succ]
    refine qs_act ?_
    go_wp2_with fail
    obtain ⟨w4, hw4⟩ : ∃ w4, w4 = w3.alloc (.cells (decZ zs) 154) := ⟨_, rfl⟩
    have HL4 := Lib.hid (show Below w.heap.size w w4 by rw [hw4]; exact HL3.out.alloc HL3.out.size _)
    have HB4 := Lib.hid (show Blk w4 w3.heap.size 154 (decZ zs) by rw [hw4]; exact Blk.made _ _ _)
    have hr4 : w4.rangeAt w1.heap.size 0 (rowOf (cntv zs) 16).toList := by rw [hw4]; exact (HB3.out.alloc _).range
    rw [← hw4]
    have hgw := HL3.out.size
    clear hw4 HB3 HB2 HL2 HB1 HO1 HO2 hrg
    refine ⟨hr4, ?_⟩
    (repeat (first | (refine qs_now (v := ?_) (by rfl) ?_ ?_; rotate_left 1; (· (intro w' hS; go_simp; (try (simp only [↓IntWalk.iteOmega]; go_simp)); (try simp (disch := omega) only [IntWalk.i64_in]); try with_reducible rfl)); simp only [Act.put, List.setIfInBounds_toArray, List.set_cons_zero, List.set_cons_succ]) | (refine qs_run (v := ?_) (by rfl) ?_ ?_; rotate_left 1; (· (intro j w' hS; go_simp; (try (simp only [↓IntWalk.iteOmega]; go_simp)); (try simp (disch := omega) only [IntWalk.i64_in]); try with_reducible rfl)); simp only [Act.put, List.setIfInBounds_toArray, List.set_cons_zero, List.set_cons_succ]) | (refine qs_skip (by rfl) ?_; simp only [Act.put, List.setIfInBounds_toArray, List.set_cons_zero, List.set_cons_succ])))
    refine qs_nil ?_
    clear hr4
    generalize w3.heap.size = g at *
    clear HL3
    go_wp2
    go_loopw [22] (NewR zs n w g) (fun i _ => n - (intOf i).toNat)
    case atStart => exact ⟨0, fun _ => .slice none 0 0, by omega, rfl, HB4.out, fun l h1 h2 => by simpa [symL, cnt] using World.ownsRow_nil _ _ _ _, fun _ _ _ _ _ _ _ => .inl rfl, HL4.out⟩
    case round =>
      clear HB4 HL4
      obtain ⟨k, vs, hk, rfl, hb, ho, hd, hbel⟩ := hrel
      have HB := Lib.hid hb
      have HO := Lib.hid ho
      have HD := Lib.hid hd
      have HBel := Lib.hid hbel
      clear hb ho hd hbel
      by_cases hlt : k < n
      · obtain ⟨b, off, rfl, hblt, hz⟩ := HR.out.cell HBel.out hlt
        have hkl : k < zs.length := by have := HL.out; omega
        have hz15 := okLen_of HOk.out hkl
        have HT := Lib.hid (take_snoc zs k hkl)
        generalize zs.getD k 0 = z at *
        obtain ⟨l, rfl⟩ : ∃ l : Nat, z = l := ⟨z.toNat, by omega⟩
        have HSY : Hid (∀ i, symL (zs.take (k + 1)) i = symL (zs.take k) i ++ if l = i then [(k : Int)] else []) := by
          intro i
          rw [HT.out, symL_snoc, List.length_take, Nat.min_eq_left (by omega)]
          simp only [Int.ofNat_inj]
        have HCN : Hid (∀ i, cnt (zs.take (k + 1)) i = cnt (zs.take k) i + if l = i then 1 else 0) := by
          intro i
          rw [HT.out, cnt_snoc]
          simp only [Int.ofNat_inj]
        have HMX : Hid (maxL (zs.take (k + 1)) = max (maxL (zs.take k)) l) := by rw [HT.out, maxL_snoc]; rfl
        have hm0 : 0 ≤ maxL (zs.take k) := maxL_lo _
        have hm1 : maxL (zs.take k) ≤ 15 := maxL_hi HOk.out k
        by_cases hpos : 0 < l
        · have hposI : (0 : Int) < l := by omega
          have ho := HO.out l (by omega) (by omega)
          obtain ⟨A, c, hv, _⟩ := own_slice ho
          have hcl := cnt_le (zs.take k) l
          have hlk : (zs.take k).length ≤ k := List.length_take_le _ _
          have hc1 := HB.out.cell (rowOf_at (f := decC zs vs (maxL (zs.take k))) (i := 32 + l) (n := 50) (by omega))
          rw [decC_row _ _ _ (by omega), hv] at hc1
          have HOl := Lib.hid ho
          have HV := Lib.hid hv
          clear ho hv
          have hi3 : (l : Int) < 16 := by omega
          go_wp2
          refine wp_region_qs (fun j w' => j ≤ 1 → w'.cell? ⟨g, 32 + l, none⟩ = some (.slice A (cnt (zs.take k) l) c)) [(0, some 2), (1, some 2), (2, some 2), (3, some 2), (4, some 2), (5, some 2), (6, some 2), (7, some 1), (8, some 1), (11, some 3), (12, some 3), (9, none), (10, none), (13, some 2), (14, none)] (by kernel_rfl) (by kernel_rfl) (by kernel_rfl) (by kernel_rfl) (by kernel_rfl) (fun _ _ _ _ _ h => h) (fun _ => hc1) ?_
          simp only [List.map_cons, List.map_nil, List.getD_cons_succ, List.getD_cons_zero]
          (repeat (first | (refine qs_now (v := ?_) (by rfl) ?_ ?_; rotate_left 1; (· (intro w' hS; go_simp; (try (simp only [↓IntWalk.iteOmega]; go_simp)); (try simp (disch := omega) only [IntWalk.i64_in]); try with_reducible rfl)); simp only [Act.put, List.setIfInBounds_toArray, List.set_cons_zero, List.set_cons_succ]) | (refine qs_run (v := ?_) (by rfl) ?_ ?_; rotate_left 1; (· (intro j w' hS; go_simp; (try (simp only [↓IntWalk.iteOmega]; go_simp)); (try simp (disch := omega) only [IntWalk.i64_in]); try with_reducible rfl)); simp only [Act.put, List.setIfInBounds_toArray, List.set_cons_zero, List.set_cons_succ]) | (refine qs_mid (v := ?_) (by rfl) ?_ ?_; rotate_left 1; (· (intro j w' hj1 hj2 hS; go_simp; (try (simp only [↓IntWalk.iteOmega]; go_simp)); (try simp (disch := omega) only [IntWalk.i64_in]); try with_reducible rfl)); simp only [Act.put, List.setIfInBounds_toArray, List.set_cons_zero, List.set_cons_succ]) | (refine qs_skip (by rfl) ?_; simp only [Act.put, List.setIfInBounds_toArray, List.set_cons_zero, List.set_cons_succ])))
          refine qs_act ?_
          go_wp2
          obtain ⟨w1', hw1⟩ : ∃ w1', w1' = (wr.alloc (.cells #[.int .i64 (k : Int)] 3)).drew := ⟨_, rfl⟩
          rw [← hw1]
          have L1 := Lib.hid (show Below wr.heap.size wr w1' by rw [hw1]; exact ((Below.refl _ _).alloc (Nat.le_refl _) _).drew)
          have B1 := Lib.hid (show Blk w1' wr.heap.size 3 #[.int .i64 (k : Int)] by rw [hw1]; exact (Blk.made _ _ _).drew)
          clear hw1
          have hglt := HB.out.lt
          refine ⟨fun _ => keepCell L1.out hglt hc1, ?_⟩
          refine qs_act ?_
          have O1 := own_below HOl.out L1.out
          rw [HV.out] at O1
          refine app_int rfl (.tmp 36) (.tmp 38) rfl w.heap.size _ _ _ wr.heap.size k 3 rfl O1 rfl B1.out (by omega) (Nat.le_trans HBel.out.size L1.out.size) ?_
          intro g2 cap2 w2 ho2 hg2 hor2 hlt2
          have O2 := Lib.hid ho2
          have G2 := Lib.hid hg2
          have R2 := Lib.hid hor2
          clear ho2 hg2 hor2 O1
          have B2 := Lib.hid ((HB.out.below L1.out hglt).grown G2.out (dec_apart (HB.out.below L1.out hglt) (by have := own_below HOl.out L1.out; rwa [HV.out] at this)))
          have hc2 := B2.out.cell (rowOf_at (f := decC zs vs (maxL (zs.take k))) (i := 32 + l) (n := 50) (by omega))
          rw [decC_row _ _ _ (by omega), HV.out] at hc2
          have hf2 := B2.out.free (32 + l)
          refine wpList_nil ?_
          refine ⟨fun h => absurd h (by omega), ?_⟩
          (repeat (first | (refine qs_now (v := ?_) (by rfl) ?_ ?_; rotate_left 1; (· (intro w' hS; go_simp; (try (simp only [↓IntWalk.iteOmega]; go_simp)); (try simp (disch := omega) only [IntWalk.i64_in]); try with_reducible rfl)); simp only [Act.put, List.setIfInBounds_toArray, List.set_cons_zero, List.set_cons_succ]) | (refine qs_run (v := ?_) (by rfl) ?_ ?_; rotate_left 1; (· (intro j w' hS; go_simp; (try (simp only [↓IntWalk.iteOmega]; go_simp)); (try simp (disch := omega) only [IntWalk.i64_in]); try with_reducible rfl)); simp only [Act.put, List.setIfInBounds_toArray, List.set_cons_zero, List.set_cons_succ]) | (refine qs_mid (v := ?_) (by rfl) ?_ ?_; rotate_left 1; (· (intro j w' hj1 hj2 hS; go_simp; (try (simp only [↓IntWalk.iteOmega]; go_simp)); (try simp (disch := omega) only [IntWalk.i64_in]); try with_reducible rfl)); simp only [Act.put, List.setIfInBounds_toArray, List.set_cons_zero, List.set_cons_succ]) | (refine qs_skip (by rfl) ?_; simp only [Act.put, List.setIfInBounds_toArray, List.set_cons_zero, List.set_cons_succ])))
          refine qs_act ?_
          go_wp2
          refine ⟨fun h => absurd h (by omega), ?_⟩
          refine qs_nil ?_
          have B3 := Lib.hid (B2.out.put (32 + l) (.slice (some ⟨g2, 0, none⟩) (cnt (zs.take k) l + 1) cap2))
          have hc3 := B3.out.cell (i := 48) (v := .int .i64 (maxL (zs.take k))) (by rw [Array.getElem?_setIfInBounds, if_neg (by omega), rowOf_at (by omega)]; rfl)
          have hf3 := B3.out.free 48
          go_wp2
          go_roundw
          case rel =>
            clear hc1 hc2 hf2 hc3 hf3
            have hgg : g ≠ g2 := by
              have := dec_apart B2.out O2.out
              simpa [Value.ownBlock] using this
            have hle := L1.out.size
            have hvl : ∀ i, 1 ≤ i → i ≤ 15 → ∀ b, (vs i).ownBlock = some b → b < wr.heap.size := fun i h1 h2 b hb => ((HO.out i h1 h2).lt b hb).2
            have hdl : ∀ i, 1 ≤ i → i ≤ 15 → i ≠ l → (vs i).ownBlock = none ∨ (vs i).ownBlock ≠ some g2 := by
              intro i h1 h2 hne
              rcases R2.out with h | h
              · rw [← HV.out] at h
                rw [← h]
                exact HD.out i l h1 h2 (by omega) (by omega) hne
              · refine .inr (fun hh => ?_)
                have := hvl i h1 h2 _ hh
                omega
            refine ⟨k + 1, fun i => if i = l then .slice (some ⟨g2, 0, none⟩) (cnt (zs.take k) l + 1) cap2 else vs i, by omega, by go_num, ?_, ?_, ?_, ?_⟩
            · have := B3.out.put 48 (.int .i64 (if maxL (zs.take k) < (l : Int) then (l : Int) else maxL (zs.take k)))
              rw [rowOf_set _ (by omega), rowOf_set _ (by omega)] at this
              rw [HMX.out]
              refine Eq.trans this ?_
              congr 2
              apply rowOf_congr
              intro i hi
              unfold decC
              by_cases h48 : i = 48
              · subst h48
                simp only [if_true, if_false, Nat.reduceLT]
                congr 1
                split <;> omega
              · simp only [h48, if_false]
                by_cases hil : i = 32 + l
                · subst hil
                  rw [if_pos rfl, if_neg (by omega), if_neg (by omega), if_pos (by omega), if_pos (by omega)]
                · rw [if_neg hil]
                  by_cases h32 : i < 48
                  · by_cases h16 : i < 16
                    · rw [if_pos h16, if_pos h16]
                    · rw [if_neg h16, if_neg h16]
                      by_cases h33 : i < 32
                      · rw [if_pos h33, if_pos h33]
                      · rw [if_neg h33, if_neg h33, if_pos h32, if_pos h32, if_neg (by omega)]
                  · rw [if_neg (by omega), if_neg (by omega), if_neg h32, if_neg (by omega), if_neg (by omega), if_neg h32]
            · intro i h1 h2
              rw [HSY.out, HCN.out]
              by_cases hil : i = l
              · subst hil
                simp only [if_true]
                exact own_else (own_else O2.out hgg _) hgg _
              · simp only [if_neg (fun h => hil (Eq.symm h)), if_neg hil, List.append_nil, Nat.add_zero]
                have h3 := own_below (HO.out i h1 h2) L1.out
                have h4 := World.ownsRow.kept h3 G2.out (by rw [← HV.out]; exact HD.out i l h1 h2 (by omega) (by omega) hil)
                have h5 := dec_apart B2.out h4
                have h6 := h4.kept (grown_put _ ⟨g, 32 + l, none⟩ (.slice (some ⟨g2, 0, none⟩) (cnt (zs.take k) l + 1) cap2)) (.inr (Ne.symm h5))
                exact h6.kept (grown_put _ ⟨g, 48, none⟩ _) (.inr (Ne.symm h5))
            · intro i i' h1 h2 h3 h4 hne
              dsimp only
              by_cases hil : i = l
              · subst hil
                rw [if_pos rfl, if_neg (Ne.symm hne)]
                rcases hdl i' h3 h4 (Ne.symm hne) with h | h
                · exact .inr (by rw [h]; simp [Value.ownBlock])
                · exact .inr (fun e => h (by rw [← e]; rfl))
              · rw [if_neg hil]
                by_cases hil' : i' = l
                · rw [if_pos hil']
                  rcases hdl i h1 h2 hil with h | h
                  · exact .inl h
                  · exact .inr (fun e => h (by rw [e]; rfl))
                · rw [if_neg hil']
                  exact HD.out i i' h1 h2 h3 h4 hne
            · have h1 := below_chain HBel.out L1.out
              have h2 := h1.grown G2.out h1.size (fun b hb => by rw [← HV.out] at hb; exact (HOl.out.lt b hb).1)
              exact (h2.setCell (by simp; omega) _).setCell (by simp; omega) _
          case measure => simp [intOf]; omega
        · obtain rfl : l = 0 := by omega
          go_wp2
          go_roundw
          case rel =>
            refine ⟨k + 1, vs, by omega, by go_num, ?_, ?_, HD.out, HBel.out⟩
            · rw [HMX.out, show max (maxL (zs.take k)) ((0 : Nat) : Int) = maxL (zs.take k) from by omega]; exact HB.out
            · intro l h1 h2
              rw [HSY.out, HCN.out, if_neg (by omega), if_neg (by omega), List.append_nil]
              exact HO.out l h1 h2
          case measure => simp [intOf]; omega
      · obtain rfl : k = n := by omega
        go_wp2
        go_ret
        rw [← HL.out, List.take_length] at HB HO
        refine ⟨.inr ⟨HOk.out, g, rfl, hgw, vs, HB.out, fun l h1 h2 => ?_⟩, HBel.out⟩
        exact own_from0 (HO.out l h1 h2)
end Go.Proofs.YtlhaehefhhcgaaaDoor
