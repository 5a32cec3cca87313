/-
  The document's reader: what lies in memory, what its small methods do.
-/
import Derived.Test.YtacidmamfkfipaaDoorInflate
namespace Go.Proofs.YtacidmamfkfipaaDoor
open Go.RowKit
set_option linter.unusedVariables false

/-- The document's reader in block s: the bits of bs, at p; the text so far; the error that was met. -/
def RefOk (w : World) (base s : Nat) (bs : List Int) (p : Nat) (out : List Int) (most e : Int) : Prop :=
  p ≤ 8 * bs.length ∧ s < base ∧ base ≤ w.heap.size ∧ Bytes out ∧ ∃ A c v, Blk w s 64 #[.slice A (8 * bs.length) c, .int .i64 p, v, .int .i64 most, .int .i64 e] ∧ RdI .i64 w A (8 * bs.length) (bitsOf bs) ∧
    (∀ b off, A = some ⟨b, off, none⟩ → b < base ∧ b ≠ s) ∧ w.ownsRow 0 5 1 v out.length (out.map (Value.int .u8)) ∧ (∀ j, v.ownBlock = some j → base ≤ j)
theorem rd_keep {w w' : World} {base s n : Nat} {A : Option Addr} {zs : List Int} (h : RdI .i64 w A n zs) (hA : ∀ b off, A = some ⟨b, off, none⟩ → b < base ∧ b ≠ s) (hs : w.heap.size ≤ w'.heap.size) (hk : ∀ k, k < base → k ≠ s → w'.heap[k]? = w.heap[k]?) : RdI .i64 w' A n zs :=
  ⟨h.1, fun hn => by
    obtain ⟨b, off, e, hlt, hc⟩ := h.2 hn
    obtain ⟨h1, h2⟩ := hA b off e
    exact ⟨b, off, e, by omega, fun j hj => (World.cell?_of_block (a := ⟨b, off + j, none⟩) (hk b h1 h2)).trans (hc j hj)⟩⟩
theorem RefOk.sblk {w : World} {base s p : Nat} {bs out : List Int} {most e : Int} (h : RefOk w base s bs p out most e) : ∃ cs, Blk w s 64 cs := by
  obtain ⟨_, _, _, _, A, c, v, h, _⟩ := h
  exact ⟨_, h⟩
theorem RefOk.below {w w' : World} {base s p : Nat} {bs out : List Int} {most e : Int} (h : RefOk w base s bs p out most e) (hb : Below w.heap.size w w') : RefOk w' base s bs p out most e := by
  obtain ⟨h1, h2, h3, h4, A, c, v, h5, h6, h7, h8, h9⟩ := h
  exact ⟨h1, h2, Nat.le_trans h3 hb.size, h4, A, c, v, h5.below hb h5.lt, h6.below hb, h7, own_below h8 hb, h9⟩
/-- What it holds is turned. -/
theorem RefOk.turn {w w' : World} {base s p p' : Nat} {bs out out' : List Int} {most e e' : Int} {A : Option Addr} {c : Nat} {v' v : Value} (h : RefOk w base s bs p out most e) (h0 : Blk w s 64 #[.slice A (8 * bs.length) c, .int .i64 p, v, .int .i64 most, .int .i64 e])
    (hg : w.grownBy w' (some s)) (hb : Blk w' s 64 #[.slice A (8 * bs.length) c, .int .i64 p', v', .int .i64 most, .int .i64 e']) (hp : p' ≤ 8 * bs.length)
    (ho : w.ownsRow 0 5 1 v' out'.length (out'.map (Value.int .u8))) (hlo : ∀ j, v'.ownBlock = some j → base ≤ j) (hB : Bytes out') : RefOk w' base s bs p' out' most e' ∧ StStep w w' base s s := by
  obtain ⟨h1, h2, h3, h4, A1, c1, v1, h5, h6, h7, h8, h9⟩ := h
  obtain ⟨rfl, rfl⟩ : A1 = A ∧ c1 = c := by
    have a := h5.cell (i := 0) rfl
    rw [h0.cell (i := 0) rfl] at a
    injection a with a
    injection a with a b d
    exact ⟨a.symm, d.symm⟩
  have hlow : ∀ k, k < base → k ≠ s → w'.heap[k]? = w.heap[k]? := fun k hk hks => hg.block k (by omega) (fun e => hks (by injection e))
  exact ⟨⟨hp, h2, Nat.le_trans h3 hg.size, hB, A1, c1, v', hb, rd_keep h6 h7 hg.size hlow, h7, ho.kept hg (st_apart h5 ho (by decide)), hlo⟩, StStep.of_s hg h3⟩
/-- A row of bytes of its own has grown, and is not yet laid down. -/
theorem RefOk.grow {w w' : World} {base s p : Nat} {bs out : List Int} {most e : Int} {A : Option Addr} {c : Nat} {v : Value} (h : RefOk w base s bs p out most e) (h0 : Blk w s 64 #[.slice A (8 * bs.length) c, .int .i64 p, v, .int .i64 most, .int .i64 e]) (hg : w.grownBy w' v.ownBlock) :
    RdI .i64 w' A (8 * bs.length) (bitsOf bs) ∧ (∀ b off, A = some ⟨b, off, none⟩ → b < base ∧ b ≠ s) ∧ Blk w' s 64 #[.slice A (8 * bs.length) c, .int .i64 p, v, .int .i64 most, .int .i64 e] ∧ StStep w w' base s s := by
  obtain ⟨h1, h2, h3, h4, A1, c1, v1, h5, h6, h7, h8, h9⟩ := h
  obtain ⟨rfl, rfl⟩ : A1 = A ∧ c1 = c := by
    have a := h5.cell (i := 0) rfl
    rw [h0.cell (i := 0) rfl] at a
    injection a with a
    injection a with a b d
    exact ⟨a.symm, d.symm⟩
  obtain rfl : v1 = v := by
    have a := h5.cell (i := 2) rfl
    rw [h0.cell (i := 2) rfl] at a
    injection a with a
    exact a.symm
  have hlo : ∀ b, b < base → some b ≠ v1.ownBlock := fun b hb e => by have := h9 b e.symm; omega
  exact ⟨rd_keep h6 h7 hg.size (fun k hk _ => hg.block k (by omega) (hlo k hk)), h7, h0.grown hg (hlo s h2), StStep.of_own hg h8 h9 h3⟩
/-- One byte more: the row has grown, and is laid down. -/
theorem ref_push {w w8 w9 : World} {base s p : Nat} {bs o1 : List Int} {most e x : Int} {A A2 : Option Addr} {n c c2 : Nat} {v9 : Value} (H : RefOk w base s bs p o1 most e) (hb : Blk w s 64 #[.slice A (8 * bs.length) c, .int .i64 p, .slice A2 n c2, .int .i64 most, .int .i64 e])
    (L8 : Below w.heap.size w w8) (hg9 : w8.grownBy w9 (Value.slice A2 n c2).ownBlock) (hor9 : v9.ownBlock = (Value.slice A2 n c2).ownBlock ∨ v9.ownBlock = some w8.heap.size) (ho9 : w9.ownsRow 0 5 1 v9 (o1 ++ [x]).length ((o1 ++ [x]).map (Value.int .u8))) (hx : 0 ≤ x ∧ x < 256) :
    RefOk (w9.setCell ⟨s, 2, none⟩ v9) base s bs p (o1 ++ [x]) most e ∧ StStep w (w9.setCell ⟨s, 2, none⟩ v9) base s s ∧ Blk w9 s 64 #[.slice A (8 * bs.length) c, .int .i64 p, .slice A2 n c2, .int .i64 most, .int .i64 e] := by
  have H8 := H.below L8
  have B8 := hb.below L8 hb.lt
  obtain ⟨r9, ha9, b9, st9⟩ := H8.grow B8 hg9
  obtain ⟨h1, h2, h3, h4, A1, c1, v1, h5, h6, h7, h8, h9⟩ := H
  obtain rfl : v1 = .slice A2 n c2 := by
    have a := h5.cell (i := 2) rfl
    rw [hb.cell (i := 2) rfl] at a
    injection a with a
    exact a.symm
  have hb9 : base ≤ w9.heap.size := Nat.le_trans (Nat.le_trans h3 L8.size) hg9.size
  have lo9 : ∀ j, v9.ownBlock = some j → base ≤ j := fun j hj => by
    rcases hor9 with e | e
    · exact h9 j (by rw [← e, hj])
    · rw [hj] at e
      injection e with e
      have := L8.size
      omega
  have hB9 : Bytes (o1 ++ [x]) := fun z hz => by
    rcases List.mem_append.1 hz with hz | hz
    · exact h4 z hz
    · obtain rfl : z = x := by simpa using hz
      exact hx
  have hg := grown_put w9 ⟨s, 2, none⟩ v9
  have hlow : ∀ k, k < base → k ≠ s → (w9.setCell ⟨s, 2, none⟩ v9).heap[k]? = w9.heap[k]? := fun k hk hks => hg.block k (by omega) (fun e => hks (by injection e))
  exact ⟨⟨h1, h2, Nat.le_trans hb9 hg.size, hB9, A, c, v9, b9.put 2 v9, rd_keep r9 ha9 hg.size hlow, ha9, ho9.kept hg (st_apart b9 ho9 (by decide)), lo9⟩, (StStep.of_below L8 h3).trans (st9.trans (StStep.of_s hg hb9)), b9⟩
/-- A row of numbers of the call's own has grown: the reader stays. -/
theorem RefOk.int {w w' : World} {base s p b2 n : Nat} {bs out : List Int} {most e : Int} {u : Value} {xs : List Value} (h : RefOk w base s bs p out most e) (ho : w.ownsRow b2 3 1 u n xs) (hb2 : base ≤ b2) (hg : w.grownBy w' u.ownBlock) : RefOk w' base s bs p out most e := by
  obtain ⟨h1, h2, h3, h4, A1, c1, v1, h5, h6, h7, h8, h9⟩ := h
  have hlo : ∀ b, b < base → some b ≠ u.ownBlock := fun b hb e => by have := own_base ho e.symm; omega
  exact ⟨h1, h2, Nat.le_trans h3 hg.size, h4, A1, c1, v1, h5.grown hg (hlo s h2), rd_keep h6 h7 hg.size (fun k hk _ => hg.block k (by omega) (hlo k hk)), h7, h8.kept hg (own_apart h8 ho (by decide)), h9⟩
theorem RefOk.row {w w' : World} {base s p b n : Nat} {bs out : List Int} {most e : Int} {v : Value} {xs : List Value} (h : RefOk w base s bs p out most e) (hst : StStep w w' base s s) (hk : w.ownsRow b 3 1 v n xs) : w'.ownsRow b 3 1 v n xs := by
  obtain ⟨c1, h1⟩ := h.sblk
  refine ⟨hk.1, hk.2.imp id ?_⟩
  rintro ⟨g', cap, cur, rfl, a1, a2, a3⟩
  have hne : g' ≠ s := blk_ne (show Blk w g' 3 cur from a2) h1 (by decide)
  refine ⟨g', cap, cur, rfl, a1, (hst.typ g' (Blk.lt (show Blk w g' 3 cur from a2)) (fun cs f e => ?_) hne hne).trans a2, a3⟩
  rw [a2] at e
  injection e with e
  injection e with _ e
  exact absurd e (by decide)
/-- A block of another kind stays. -/
theorem RefOk.keepBlk {w w' : World} {base s p g : Nat} {bs out : List Int} {most e : Int} {t : TypeId} {cs : Array Value} (h : RefOk w base s bs p out most e) (hst : StStep w w' base s s) (hk : Blk w g t cs) (h1 : t ≠ 5) (h2 : t ≠ 64) : Blk w' g t cs := by
  obtain ⟨c1, hs⟩ := h.sblk
  have hne : g ≠ s := blk_ne hk hs h2
  refine (hst.typ g hk.lt (fun cs f e => ?_) hne hne).trans hk
  unfold Blk at hk
  rw [hk] at e
  injection e with e
  injection e with _ e
  exact h1 e
theorem RefOk.c4 {w : World} {base s p : Nat} {bs out : List Int} {most e : Int} (h : RefOk w base s bs p out most e) : w.cell? ⟨s, 4, none⟩ = some (.int .i64 e) := by
  obtain ⟨_, _, _, _, A, c, v, h5, _⟩ := h
  exact h5.cell (i := 4) rfl

def RFailPost (base s : Nat) (bs : List Int) (p : Nat) (out : List Int) (most e x : Int) (w : World) (ev : Ending) (w' : World) : Prop :=
  ev = .returned (.tuple #[]) ∧ RefOk w' base s bs p out most (if e = 0 then x else e) ∧ StStep w w' base s s ∧ w'.cell? ⟨s, 2, none⟩ = w.cell? ⟨s, 2, none⟩
set_option maxHeartbeats 800000 in
theorem rfail_any (base s : Nat) (bs : List Int) (p : Nat) (out : List Int) (most e x : Int) (w : World) (h : RefOk w base s bs p out most e) :
    Calls Tryd.prog 38 #[.pointer (some ⟨s, 0, none⟩), .int .i64 x] w (RFailPost base s bs p out most e x w) := by
  have H := Lib.hid h
  obtain ⟨h1, h2, h3, h4, A, c, v, h5, h6, h7, h8, h9⟩ := h
  have HV := Lib.hid h5
  have c4 := h5.cell (i := 4) (v := .int .i64 e) rfl
  have f4 := h5.free 4
  have HO := Lib.hid h8
  have H9 := Lib.hid h9
  clear h5 h6 h7 h8 h9
  by_cases he : e = 0
  · subst he
    go_enter Tryd.func38, Tryd.ntmps38
    go_wp2
    go_end0
    have G := grown_put w ⟨s, 4, none⟩ (.int .i64 x)
    have ht := H.out.turn HV.out G (HV.out.put 4 _) h1 HO.out H9.out h4
    exact ⟨rfl, ht.1, ht.2, ((HV.out.put 4 _).cell (i := 2) rfl).trans (HV.out.cell (i := 2) rfl).symm⟩
  · have d : (e == 0) = false := by simpa using he
    go_enter Tryd.func38, Tryd.ntmps38
    go_wp2
    go_end0
    exact ⟨rfl, by rw [if_neg he]; exact H.out, StStep.refl _ _ _ _, rfl⟩

/-- What one step has read; behind an error nothing. -/
def RTook (e : Int) (T : Res Nat) (v p' : Nat) (e' : Int) : Prop := (e = 0 ∧ Took 0 T v p' e') ∨ (e ≠ 0 ∧ v = 0 ∧ e' = e)
def RNumPost (base s : Nat) (bs : List Int) (p : Nat) (out : List Int) (most e : Int) (n : Nat) (w : World) (ev : Ending) (w' : World) : Prop :=
  ∃ v p' e', ev = .returned (.int .i64 ((v : Nat) : Int)) ∧ v < 2 ^ n ∧ RefOk w' base s bs p' out most e' ∧ StStep w w' base s s ∧ RTook e (numR (bitsOf bs) p n) v p' e' ∧ w'.cell? ⟨s, 2, none⟩ = w.cell? ⟨s, 2, none⟩
theorem numOf_one (x : Int) (h : x = 0 ∨ x = 1) : (numOf [x] : Int) = x := by
  rcases h with rfl | rfl <;> rfl
theorem bit_or {bt : List Int} (h : Bit01 bt) (i : Nat) : bt.getD i 0 = 0 ∨ bt.getD i 0 = 1 := by
  by_cases hi : i < bt.length
  · rw [List.getD_eq_getElem?_getD, List.getElem?_eq_getElem hi]
    exact h _ (List.getElem_mem _)
  · rw [List.getD_eq_getElem?_getD, List.getElem?_eq_none (by omega)]
    exact .inl rfl
theorem num_snoc (bt : List Int) (p i : Nat) (h : p + i < bt.length) (h01 : bt.getD (p + i) 0 = 0 ∨ bt.getD (p + i) 0 = 1) : (numOf ((bt.drop p).take (i + 1)) : Int) = numOf ((bt.drop p).take i) + bt.getD (p + i) 0 * 2 ^ i := by
  have h1 : (bt.drop p).take (i + 1) = (bt.drop p).take i ++ [bt.getD (p + i) 0] := by
    rw [take_snoc _ _ (by rw [List.length_drop]; omega)]
    simp
  rw [h1, numOf_append, List.length_take, List.length_drop, Nat.min_eq_left (by omega)]
  have := numOf_one _ h01
  push_cast
  rw [this]
theorem shl_step (X i : Nat) (y : Int) (hX : X < 2 ^ i) (hi : i < 32) (hy : y = 0 ∨ y = 1) : IntKind.i64.wrap ((X : Int) + IntKind.i64.wrap (y * 2 ^ min (IntKind.u64.wrap (i : Int)).toNat 64)) = X + y * 2 ^ i := by
  have h1 : IntKind.u64.wrap (i : Int) = i := by
    show (i : Int) % 18446744073709551616 = i
    omega
  rw [h1, Int.toNat_natCast, Nat.min_eq_left (by omega)]
  have hp : (2 : Int) ^ i ≤ 2147483648 := by
    have : 2 ^ i ≤ 2 ^ 31 := Nat.pow_le_pow_right (by omega) (by omega)
    have h2 : ((2 ^ i : Nat) : Int) ≤ ((2 ^ 31 : Nat) : Int) := by exact_mod_cast this
    simpa using h2
  have hX' : (X : Int) < 2 ^ i := by exact_mod_cast hX
  rcases hy with rfl | rfl
  · rw [Int.zero_mul, IntWalk.i64_in 0 (by omega), IntWalk.i64_in _ (by omega)]
  · rw [Int.one_mul, IntWalk.i64_in ((2 : Int) ^ i) (by omega), IntWalk.i64_in _ (by omega)]
def RNum (bt : List Int) (p n : Nat) (w : World) (k : Nat) (vv iv : Value) (wr : World) : Prop :=
  ∃ i : Nat, i + k = n ∧ iv = .int .i64 (i : Int) ∧ vv = .int .i64 (numOf ((bt.drop p).take i) : Int) ∧ ∃ d, wr = w.drewN d
set_option maxHeartbeats 1600000 in
theorem rnumber_any (base s : Nat) (bs : List Int) (p : Nat) (out : List Int) (most e : Int) (n : Nat) (w : World) (h : RefOk w base s bs p out most e) (hB : Bytes bs) (hl : bs.length ≤ 1000000000) (hn : n ≤ 32) :
    Calls Tryd.prog 34 #[.pointer (some ⟨s, 0, none⟩), .int .i64 (n : Int)] w (RNumPost base s bs p out most e n w) := by
  have H := Lib.hid h
  obtain ⟨h1, h2, h3, h4, A, c, v, h5, h6, h7, h8, h9⟩ := h
  have HV := Lib.hid h5
  have c0 := h5.cell (i := 0) (v := .slice A (8 * bs.length) c) rfl
  have c1 := h5.cell (i := 1) (v := .int .i64 (p : Int)) rfl
  have c4 := h5.cell (i := 4) (v := .int .i64 e) rfl
  have HR := Lib.hid h6
  have HO := Lib.hid h8
  have H9 := Lib.hid h9
  clear h5 h6 h7 h8 h9
  have L1 := Lib.hid ((Below.refl w.heap.size w).drew)
  by_cases he : e = 0
  · subst he
    by_cases hlt : 8 * bs.length < p + n
    · have d : decide (8 * (bs.length : Int) < (p : Int) + n) = true := by simp; omega
      go_enter Tryd.func34, Tryd.ntmps34
      go_wp2
      refine wp_region_qs (fun _ w' => w'.cell? ⟨s, 0, none⟩ = some (.slice A (8 * bs.length) c) ∧ w'.cell? ⟨s, 1, none⟩ = some (.int .i64 (p : Int)) ∧ w'.cell? ⟨s, 4, none⟩ = some (.int .i64 0)) [(0, some 0), (1, some 0), (2, some 0), (3, some 0), (4, some 0), (5, some 0), (6, some 0), (7, some 0), (8, some 0), (9, some 0), (10, some 0), (11, some 0), (12, some 0), (13, some 0), (14, some 0), (15, some 0), (16, some 0), (17, some 0), (18, some 0)] (by kernel_rfl) (by kernel_rfl) (by kernel_rfl) (by kernel_rfl) (by kernel_rfl) (fun _ _ _ _ _ h => h) ⟨c0, c1, c4⟩ ?_
      simp only [List.map_cons, List.map_nil, List.getD_cons_succ, List.getD_cons_zero]
      (repeat (first | (refine qs_now (v := ?_) (by rfl) ?_ ?_; rotate_left 1; (· (intro w' hS; go_simp; (try (simp only [↓IntWalk.iteOmega]; go_simp)); (try simp (disch := omega) only [IntWalk.i64_in]); try with_reducible rfl)); simp only [Act.put, List.setIfInBounds_toArray, List.set_cons_zero, List.set_cons_succ]) | (refine qs_run (v := ?_) (by rfl) ?_ ?_; rotate_left 1; (· (intro j w' hS; go_simp; (try (simp only [↓IntWalk.iteOmega]; go_simp)); (try simp (disch := omega) only [IntWalk.i64_in]); try with_reducible rfl)); simp only [Act.put, List.setIfInBounds_toArray, List.set_cons_zero, List.set_cons_succ]) | (refine qs_skip (by rfl) ?_; simp only [Act.put, List.setIfInBounds_toArray, List.set_cons_zero, List.set_cons_succ])))
      refine qs_nil ?_
      have H1 := Lib.hid (H.out.below L1.out)
      go_wp2_with (go_at_call 38; refine (rfail_any base s bs p out most 0 4 w.drew H1.out).mono ?_; rintro ev w2 ⟨rfl, h2', s2, k2⟩; have H2 := Lib.hid h2'; have K2 := Lib.hid k2; have S2 := Lib.hid ((StStep.of_below L1.out h3).trans s2); clear h2' s2 k2)
      go_ret
      refine ⟨0, p, 4, rfl, Nat.two_pow_pos n, H2.out, S2.out, .inl ⟨rfl, ?_⟩, ?_⟩
      · unfold numR
        rw [if_neg (by rw [bitsOf_len]; omega)]
        exact ⟨rfl, rfl⟩
      · exact K2.out
    · have d : decide (8 * (bs.length : Int) < (p : Int) + n) = false := by simp; omega
      have c0' : w.drew.cell? ⟨s, 0, none⟩ = some (.slice A (8 * bs.length) c) := c0
      go_enter Tryd.func34, Tryd.ntmps34
      go_wp2
      refine wp_region_qs (fun _ w' => w'.cell? ⟨s, 0, none⟩ = some (.slice A (8 * bs.length) c) ∧ w'.cell? ⟨s, 1, none⟩ = some (.int .i64 (p : Int)) ∧ w'.cell? ⟨s, 4, none⟩ = some (.int .i64 0)) [(0, some 0), (1, some 0), (2, some 0), (3, some 0), (4, some 0), (5, some 0), (6, some 0), (7, some 0), (8, some 0), (9, some 0), (10, some 0), (11, some 0), (12, some 0), (13, some 0), (14, some 0), (15, some 0), (16, some 0), (17, some 0), (18, some 0)] (by kernel_rfl) (by kernel_rfl) (by kernel_rfl) (by kernel_rfl) (by kernel_rfl) (fun _ _ _ _ _ h => h) ⟨c0, c1, c4⟩ ?_
      simp only [List.map_cons, List.map_nil, List.getD_cons_succ, List.getD_cons_zero]
      (repeat (first | (refine qs_now (v := ?_) (by rfl) ?_ ?_; rotate_left 1; (· (intro w' hS; go_simp; (try (simp only [↓IntWalk.iteOmega]; go_simp)); (try simp (disch := omega) only [IntWalk.i64_in]); try with_reducible rfl)); simp only [Act.put, List.setIfInBounds_toArray, List.set_cons_zero, List.set_cons_succ]) | (refine qs_run (v := ?_) (by rfl) ?_ ?_; rotate_left 1; (· (intro j w' hS; go_simp; (try (simp only [↓IntWalk.iteOmega]; go_simp)); (try simp (disch := omega) only [IntWalk.i64_in]); try with_reducible rfl)); simp only [Act.put, List.setIfInBounds_toArray, List.set_cons_zero, List.set_cons_succ]) | (refine qs_skip (by rfl) ?_; simp only [Act.put, List.setIfInBounds_toArray, List.set_cons_zero, List.set_cons_succ])))
      refine qs_nil ?_
      go_wp2
      go_loopg [5, 6] n (RNum (bitsOf bs) p n w)
      case atStart => exact ⟨0, by omega, rfl, rfl, 1, rfl⟩
      case round =>
        obtain ⟨i, hi, rfl, rfl, dd, rfl⟩ := hrel
        have hnl := numOf_lt (a := ((bitsOf bs).drop p).take i) (fun x hx => bitsOf_01 bs x (List.mem_of_mem_drop (List.mem_of_mem_take hx)))
        rw [List.length_take, List.length_drop, bitsOf_len, Nat.min_eq_left (by omega)] at hnl
        by_cases hlt : i < n
        · have hltI : (i : Int) < n := by omega
          have HN := Lib.hid (num_snoc (bitsOf bs) p i (by rw [bitsOf_len]; omega) (bit_or (bitsOf_01 bs) _))
          obtain ⟨b, off, rfl, hblt, hcells⟩ := HR.out.2 (by omega)
          have cx := hcells (p + i) (by omega)
          have hbit := bit_or (bitsOf_01 bs) (p + i)
          clear hcells
          generalize (bitsOf bs).getD (p + i) 0 = y at *
          have hpw : 2 ^ i ≤ 2 ^ 31 := Nat.pow_le_pow_right (by omega) (by omega)
          generalize hX : numOf (((bitsOf bs).drop p).take i) = X at *
          have q0 : (w.drewN dd).cell? ⟨s, 0, none⟩ = some (.slice (some ⟨b, off, none⟩) (8 * bs.length) c) := c0
          have q1 : (w.drewN dd).cell? ⟨s, 1, none⟩ = some (.int .i64 (p : Int)) := c1
          have qx : (w.drewN dd).cell? ⟨b, off + ((p : Int) + (i : Int)).toNat, none⟩ = some (.int .i64 y) := by rw [show ((p : Int) + (i : Int)).toNat = p + i by omega]; exact cx
          clear hX
          go_wp2
          refine wp_region_qs (fun _ w' => w'.cell? ⟨s, 0, none⟩ = some (.slice (some ⟨b, off, none⟩) (8 * bs.length) c) ∧ w'.cell? ⟨s, 1, none⟩ = some (.int .i64 (p : Int)) ∧ w'.cell? ⟨b, off + ((p : Int) + (i : Int)).toNat, none⟩ = some (.int .i64 y)) [(0, some 0), (1, some 0), (2, some 0), (3, some 0), (4, some 0), (5, some 0), (6, some 0), (7, some 0), (8, some 0), (9, some 0), (10, some 0), (11, some 0), (12, some 0), (13, some 0), (14, some 0), (15, some 0), (16, some 0), (17, some 0)] (by kernel_rfl) (by kernel_rfl) (by kernel_rfl) (by kernel_rfl) (by kernel_rfl) (fun _ _ _ _ _ h => h) ⟨q0, q1, qx⟩ ?_
          simp only [List.map_cons, List.map_nil, List.getD_cons_succ, List.getD_cons_zero]
          (repeat (first | (refine qs_now (v := ?_) (by rfl) ?_ ?_; rotate_left 1; (· (intro w' hS; go_simp; (try (simp only [↓IntWalk.iteOmega]; go_simp)); (try simp (disch := omega) only [IntWalk.i64_in]); try with_reducible rfl)); simp only [Act.put, List.setIfInBounds_toArray, List.set_cons_zero, List.set_cons_succ]) | (refine qs_run (v := ?_) (by rfl) ?_ ?_; rotate_left 1; (· (intro j w' hS; go_simp; (try (simp only [↓IntWalk.iteOmega]; go_simp)); (try simp (disch := omega) only [IntWalk.i64_in]); try with_reducible rfl)); simp only [Act.put, List.setIfInBounds_toArray, List.set_cons_zero, List.set_cons_succ]) | (refine qs_skip (by rfl) ?_; simp only [Act.put, List.setIfInBounds_toArray, List.set_cons_zero, List.set_cons_succ])))
          refine qs_nil ?_
          rw [shl_step X i y hnl (by omega) hbit]
          go_wp2
          go_roundg (gk - 1)
          case measure => omega
          case rel => exact ⟨i + 1, by omega, by go_num, by rw [HN.out], dd + 1, rfl⟩
        · obtain rfl : i = n := by omega
          have q1 : (w.drewN dd).cell? ⟨s, 1, none⟩ = some (.int .i64 (p : Int)) := c1
          have B1 : Blk (w.drewN dd) s 64 #[.slice A (8 * bs.length) c, .int .i64 (p : Int), v, .int .i64 most, .int .i64 0] := HV.out.drewN dd
          have f1 := B1.free 1
          have HB1 := Lib.hid B1
          clear B1
          obtain ⟨w3, hw3⟩ : ∃ w3, w3 = w.drewN dd := ⟨_, rfl⟩
          have L3 := Lib.hid (show Below w.heap.size w w3 by rw [hw3]; exact below_drewN (Below.refl _ _) _)
          rw [← hw3] at q1 f1 HB1
          rw [← hw3]
          clear hw3
          go_wp2
          go_ret
          have G := grown_put w3 ⟨s, 1, none⟩ (.int .i64 ((p : Int) + i))
          have ht := (H.out.below L3.out).turn (p' := p + i) HB1.out G (by have := HB1.out.put 1 (.int .i64 ((p : Int) + i)); simpa using this) (by omega) (own_below HO.out L3.out) H9.out h4
          refine ⟨_, p + i, 0, rfl, hnl, ht.1, (StStep.of_below L3.out h3).trans ht.2, .inl ⟨rfl, ?_⟩, ?_⟩
          · unfold numR
            rw [if_pos (by rw [bitsOf_len]; omega)]
            exact ⟨rfl, rfl, rfl⟩
          · exact ((HB1.out.put 1 _).cell (i := 2) rfl).trans (HV.out.cell (i := 2) rfl).symm
  · have d : (e != 0) = true := by simpa using he
    go_enter Tryd.func34, Tryd.ntmps34
    go_wp2
    refine wp_region_qs (fun _ w' => w'.cell? ⟨s, 0, none⟩ = some (.slice A (8 * bs.length) c) ∧ w'.cell? ⟨s, 1, none⟩ = some (.int .i64 (p : Int)) ∧ w'.cell? ⟨s, 4, none⟩ = some (.int .i64 e)) [(0, some 0), (1, some 0), (2, some 0), (3, some 0), (4, some 0), (5, some 0), (6, some 0), (7, some 0), (8, some 0), (9, some 0), (10, some 0), (11, some 0), (12, some 0), (13, some 0), (14, some 0), (15, some 0), (16, some 0), (17, some 0), (18, some 0)] (by kernel_rfl) (by kernel_rfl) (by kernel_rfl) (by kernel_rfl) (by kernel_rfl) (fun _ _ _ _ _ h => h) ⟨c0, c1, c4⟩ ?_
    simp only [List.map_cons, List.map_nil, List.getD_cons_succ, List.getD_cons_zero]
    (repeat (first | (refine qs_now (v := ?_) (by rfl) ?_ ?_; rotate_left 1; (· (intro w' hS; go_simp; (try (simp only [↓IntWalk.iteOmega]; go_simp)); (try simp (disch := omega) only [IntWalk.i64_in]); try with_reducible rfl)); simp only [Act.put, List.setIfInBounds_toArray, List.set_cons_zero, List.set_cons_succ]) | (refine qs_run (v := ?_) (by rfl) ?_ ?_; rotate_left 1; (· (intro j w' hS; go_simp; (try (simp only [↓IntWalk.iteOmega]; go_simp)); (try simp (disch := omega) only [IntWalk.i64_in]); try with_reducible rfl)); simp only [Act.put, List.setIfInBounds_toArray, List.set_cons_zero, List.set_cons_succ]) | (refine qs_skip (by rfl) ?_; simp only [Act.put, List.setIfInBounds_toArray, List.set_cons_zero, List.set_cons_succ])))
    refine qs_nil ?_
    have H1 := Lib.hid (H.out.below L1.out)
    go_wp2_with (go_at_call 38; refine (rfail_any base s bs p out most e 4 w.drew H1.out).mono ?_; rintro ev w2 ⟨rfl, h2', s2, k2⟩; have H2 := Lib.hid h2'; have K2 := Lib.hid k2; have S2 := Lib.hid ((StStep.of_below L1.out h3).trans s2); clear h2' s2 k2)
    go_ret
    rw [if_neg he] at H2
    refine ⟨0, p, e, rfl, Nat.two_pow_pos n, H2.out, S2.out, .inr ⟨he, rfl, rfl⟩, K2.out⟩
end Go.Proofs.YtacidmamfkfipaaDoor
