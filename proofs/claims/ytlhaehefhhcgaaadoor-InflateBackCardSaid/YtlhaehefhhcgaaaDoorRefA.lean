/-
  The document's reader: what lies in memory, what its small methods do.
  Plain: a code as a map from marked codes to symbols; what is found by it bit by bit is what the decoder finds.
  The document's tree, made and read.
  The document's symbols, read.
  The document's stored blocks.
  The document's tables.
-/
import Derived.Test.YtlhaehefhhcgaaaDoorInfB
import Derived.Test.YtlhaehefhhcgaaaDoorInfSpec
import Derived.Maps.Own
import Derived.Maps.OwnSet
import Derived.Maps.OwnOps
import Derived.Maps.Views
import Derived.Test.YtlhaehefhhcgaaaDoorRef04
namespace Go.Proofs.YtlhaehefhhcgaaaDoor
open Go.RowKit
set_option linter.unusedVariables false

/-- The document's reader in block s: the bits of bs, at p; the text so far; the error that was met. -/
def RefOk (w : World) (base s : Nat) (bs : List Int) (p : Nat) (out : List Int) (most e : Int) : Prop :=
  p ≤ 8 * bs.length ∧ s < base ∧ base ≤ w.heap.size ∧ Bytes out ∧ ∃ A c v, Blk w s 64 #[.slice A (8 * bs.length) c, .int .i64 p, v, .int .i64 most, .int .i64 e] ∧ RdI .i64 w A (8 * bs.length) (bitsOf bs) ∧
    (∀ b off, A = some ⟨b, off, none⟩ → b < base ∧ b ≠ s) ∧ w.ownsRow 0 5 1 v out.length (out.map (Value.int .u8)) ∧ (∀ j, v.ownBlock = some j → base ≤ j)
theorem rd_keep {w w' : World} {base s n : Nat} {A : Option Addr} {zs : List Int} (h : RdI .i64 w A n zs) (hA : ∀ b off, A = some ⟨b, off, none⟩ → b < base ∧ b ≠ s) (hs : w.heap.size ≤ w'.heap.size) (hk : ∀ k, k < base → k ≠ s → w'.heap[k]? = w.heap[k]?) : RdI .i64 w' A n zs :=
  ⟨h.1, fun hn => by
    obtain ⟨b, off, e, hlt, hc⟩ := h.2 hn
    obtain ⟨h1, h2⟩ := hA b off e
    exact ⟨b, off, e, by omega, fun j hj => (World.cell?_of_block (a := ⟨b, off + j, none⟩) (hk b h1 h2)).trans (hc j hj)⟩⟩
theorem RefOk.sblk {w : World} {base s p : Nat} {bs out : List Int} {most e : Int} (h : RefOk w base s bs p out most e) : ∃ cs, Blk w s 64 cs := by
  obtain ⟨_, _, _, _, A, c, v, h, _⟩ := h
  exact ⟨_, h⟩
theorem RefOk.below {w w' : World} {base s p : Nat} {bs out : List Int} {most e : Int} (h : RefOk w base s bs p out most e) (hb : Below w.heap.size w w') : RefOk w' base s bs p out most e := by
  obtain ⟨h1, h2, h3, h4, A, c, v, h5, h6, h7, h8, h9⟩ := h
  exact ⟨h1, h2, Nat.le_trans h3 hb.size, h4, A, c, v, h5.below hb h5.lt, h6.below hb, h7, own_below h8 hb, h9⟩
/-- What it holds is turned. -/
theorem RefOk.turn {w w' : World} {base s p p' : Nat} {bs out out' : List Int} {most e e' : Int} {A : Option Addr} {c : Nat} {v' v : Value} (h : RefOk w base s bs p out most e) (h0 : Blk w s 64 #[.slice A (8 * bs.length) c, .int .i64 p, v, .int .i64 most, .int .i64 e])
    (hg : w.grownBy w' (some s)) (hb : Blk w' s 64 #[.slice A (8 * bs.length) c, .int .i64 p', v', .int .i64 most, .int .i64 e']) (hp : p' ≤ 8 * bs.length)
    (ho : w.ownsRow 0 5 1 v' out'.length (out'.map (Value.int .u8))) (hlo : ∀ j, v'.ownBlock = some j → base ≤ j) (hB : Bytes out') : RefOk w' base s bs p' out' most e' ∧ StStep w w' base s s := by
  obtain ⟨h1, h2, h3, h4, A1, c1, v1, h5, h6, h7, h8, h9⟩ := h
  obtain ⟨rfl, rfl⟩ : A1 = A ∧ c1 = c := by
    have a := h5.cell (i := 0) rfl
    rw [h0.cell (i := 0) rfl] at a
    injection a with a
    injection a with a b d
    exact ⟨a.symm, d.symm⟩
  have hlow : ∀ k, k < base → k ≠ s → w'.heap[k]? = w.heap[k]? := fun k hk hks => hg.block k (by omega) (fun e => hks (by injection e))
  exact ⟨⟨hp, h2, Nat.le_trans h3 hg.size, hB, A1, c1, v', hb, rd_keep h6 h7 hg.size hlow, h7, ho.kept hg (st_apart h5 ho (by decide)), hlo⟩, StStep.of_s hg h3⟩
/-- A row of bytes of its own has grown, and is not yet laid down. -/
theorem RefOk.grow {w w' : World} {base s p : Nat} {bs out : List Int} {most e : Int} {A : Option Addr} {c : Nat} {v : Value} (h : RefOk w base s bs p out most e) (h0 : Blk w s 64 #[.slice A (8 * bs.length) c, .int .i64 p, v, .int .i64 most, .int .i64 e]) (hg : w.grownBy w' v.ownBlock) :
    RdI .i64 w' A (8 * bs.length) (bitsOf bs) ∧ (∀ b off, A = some ⟨b, off, none⟩ → b < base ∧ b ≠ s) ∧ Blk w' s 64 #[.slice A (8 * bs.length) c, .int .i64 p, v, .int .i64 most, .int .i64 e] ∧ StStep w w' base s s := by
  obtain ⟨h1, h2, h3, h4, A1, c1, v1, h5, h6, h7, h8, h9⟩ := h
  obtain ⟨rfl, rfl⟩ : A1 = A ∧ c1 = c := by
    have a := h5.cell (i := 0) rfl
    rw [h0.cell (i := 0) rfl] at a
    injection a with a
    injection a with a b d
    exact ⟨a.symm, d.symm⟩
  obtain rfl : v1 = v := by
    have a := h5.cell (i := 2) rfl
    rw [h0.cell (i := 2) rfl] at a
    injection a with a
    exact a.symm
  have hlo : ∀ b, b < base → some b ≠ v1.ownBlock := fun b hb e => by have := h9 b e.symm; omega
  exact ⟨rd_keep h6 h7 hg.size (fun k hk _ => hg.block k (by omega) (hlo k hk)), h7, h0.grown hg (hlo s h2), StStep.of_own hg h8 h9 h3⟩
/-- One byte more: the row has grown, and is laid down. -/
theorem ref_push {w w8 w9 : World} {base s p : Nat} {bs o1 : List Int} {most e x : Int} {A A2 : Option Addr} {n c c2 : Nat} {v9 : Value} (H : RefOk w base s bs p o1 most e) (hb : Blk w s 64 #[.slice A (8 * bs.length) c, .int .i64 p, .slice A2 n c2, .int .i64 most, .int .i64 e])
    (L8 : Below w.heap.size w w8) (hg9 : w8.grownBy w9 (Value.slice A2 n c2).ownBlock) (hor9 : v9.ownBlock = (Value.slice A2 n c2).ownBlock ∨ v9.ownBlock = some w8.heap.size) (ho9 : w9.ownsRow 0 5 1 v9 (o1 ++ [x]).length ((o1 ++ [x]).map (Value.int .u8))) (hx : 0 ≤ x ∧ x < 256) :
    RefOk (w9.setCell ⟨s, 2, none⟩ v9) base s bs p (o1 ++ [x]) most e ∧ StStep w (w9.setCell ⟨s, 2, none⟩ v9) base s s ∧ Blk w9 s 64 #[.slice A (8 * bs.length) c, .int .i64 p, .slice A2 n c2, .int .i64 most, .int .i64 e] := by
  have H8 := H.below L8
  have B8 := hb.below L8 hb.lt
  obtain ⟨r9, ha9, b9, st9⟩ := H8.grow B8 hg9
  obtain ⟨h1, h2, h3, h4, A1, c1, v1, h5, h6, h7, h8, h9⟩ := H
  obtain rfl : v1 = .slice A2 n c2 := by
    have a := h5.cell (i := 2) rfl
    rw [hb.cell (i := 2) rfl] at a
    injection a with a
    exact a.symm
  have hb9 : base ≤ w9.heap.size := Nat.le_trans (Nat.le_trans h3 L8.size) hg9.size
  have lo9 : ∀ j, v9.ownBlock = some j → base ≤ j := fun j hj => by
    rcases hor9 with e | e
    · exact h9 j (by rw [← e, hj])
    · rw [hj] at e
      injection e with e
      have := L8.size
      omega
  have hB9 : Bytes (o1 ++ [x]) := fun z hz => by
    rcases List.mem_append.1 hz with hz | hz
    · exact h4 z hz
    · obtain rfl : z = x := by simpa using hz
      exact hx
  have hg := grown_put w9 ⟨s, 2, none⟩ v9
  have hlow : ∀ k, k < base → k ≠ s → (w9.setCell ⟨s, 2, none⟩ v9).heap[k]? = w9.heap[k]? := fun k hk hks => hg.block k (by omega) (fun e => hks (by injection e))
  exact ⟨⟨h1, h2, Nat.le_trans hb9 hg.size, hB9, A, c, v9, b9.put 2 v9, rd_keep r9 ha9 hg.size hlow, ha9, ho9.kept hg (st_apart b9 ho9 (by decide)), lo9⟩, (StStep.of_below L8 h3).trans (st9.trans (StStep.of_s hg hb9)), b9⟩
/-- A row of numbers of the call's own has grown: the reader stays. -/
theorem RefOk.int {w w' : World} {base s p b2 n : Nat} {bs out : List Int} {most e : Int} {u : Value} {xs : List Value} (h : RefOk w base s bs p out most e) (ho : w.ownsRow b2 3 1 u n xs) (hb2 : base ≤ b2) (hg : w.grownBy w' u.ownBlock) : RefOk w' base s bs p out most e := by
  obtain ⟨h1, h2, h3, h4, A1, c1, v1, h5, h6, h7, h8, h9⟩ := h
  have hlo : ∀ b, b < base → some b ≠ u.ownBlock := fun b hb e => by have := own_base ho e.symm; omega
  exact ⟨h1, h2, Nat.le_trans h3 hg.size, h4, A1, c1, v1, h5.grown hg (hlo s h2), rd_keep h6 h7 hg.size (fun k hk _ => hg.block k (by omega) (hlo k hk)), h7, h8.kept hg (own_apart h8 ho (by decide)), h9⟩
theorem RefOk.row {w w' : World} {base s p b n : Nat} {bs out : List Int} {most e : Int} {v : Value} {xs : List Value} (h : RefOk w base s bs p out most e) (hst : StStep w w' base s s) (hk : w.ownsRow b 3 1 v n xs) : w'.ownsRow b 3 1 v n xs := by
  obtain ⟨c1, h1⟩ := h.sblk
  refine ⟨hk.1, hk.2.imp id ?_⟩
  rintro ⟨g', cap, cur, rfl, a1, a2, a3⟩
  have hne : g' ≠ s := blk_ne (show Blk w g' 3 cur from a2) h1 (by decide)
  refine ⟨g', cap, cur, rfl, a1, (hst.typ g' (Blk.lt (show Blk w g' 3 cur from a2)) (fun cs f e => ?_) hne hne).trans a2, a3⟩
  rw [a2] at e
  injection e with e
  injection e with _ e
  exact absurd e (by decide)
/-- A block of another kind stays. -/
theorem RefOk.keepBlk {w w' : World} {base s p g : Nat} {bs out : List Int} {most e : Int} {t : TypeId} {cs : Array Value} (h : RefOk w base s bs p out most e) (hst : StStep w w' base s s) (hk : Blk w g t cs) (h1 : t ≠ 5) (h2 : t ≠ 64) : Blk w' g t cs := by
  obtain ⟨c1, hs⟩ := h.sblk
  have hne : g ≠ s := blk_ne hk hs h2
  refine (hst.typ g hk.lt (fun cs f e => ?_) hne hne).trans hk
  unfold Blk at hk
  rw [hk] at e
  injection e with e
  injection e with _ e
  exact h1 e
theorem RefOk.c4 {w : World} {base s p : Nat} {bs out : List Int} {most e : Int} (h : RefOk w base s bs p out most e) : w.cell? ⟨s, 4, none⟩ = some (.int .i64 e) := by
  obtain ⟨_, _, _, _, A, c, v, h5, _⟩ := h
  exact h5.cell (i := 4) rfl

def RFailPost (base s : Nat) (bs : List Int) (p : Nat) (out : List Int) (most e x : Int) (w : World) (ev : Ending) (w' : World) : Prop :=
  ev = .returned (.tuple #[]) ∧ RefOk w' base s bs p out most (if e = 0 then x else e) ∧ StStep w w' base s s ∧ w'.cell? ⟨s, 2, none⟩ = w.cell? ⟨s, 2, none⟩
set_option maxHeartbeats 800000 in
theorem rfail_any (base s : Nat) (bs : List Int) (p : Nat) (out : List Int) (most e x : Int) (w : World) (h : RefOk w base s bs p out most e) :
    Calls Tryd.prog 38 #[.pointer (some ⟨s, 0, none⟩), .int .i64 x] w (RFailPost base s bs p out most e x w) := by
  have H := Lib.hid h
  obtain ⟨h1, h2, h3, h4, A, c, v, h5, h6, h7, h8, h9⟩ := h
  have HV := Lib.hid h5
  have c4 := h5.cell (i := 4) (v := .int .i64 e) rfl
  have f4 := h5.free 4
  have HO := Lib.hid h8
  have H9 := Lib.hid h9
  clear h5 h6 h7 h8 h9
  by_cases he : e = 0
  · subst he
    go_enter Tryd.func38, Tryd.ntmps38
    go_wp2
    go_end0
    have G := grown_put w ⟨s, 4, none⟩ (.int .i64 x)
    have ht := H.out.turn HV.out G (HV.out.put 4 _) h1 HO.out H9.out h4
    exact ⟨rfl, ht.1, ht.2, ((HV.out.put 4 _).cell (i := 2) rfl).trans (HV.out.cell (i := 2) rfl).symm⟩
  · have d : (e == 0) = false := by simpa using he
    go_enter Tryd.func38, Tryd.ntmps38
    go_wp2
    go_end0
    exact ⟨rfl, by rw [if_neg he]; exact H.out, StStep.refl _ _ _ _, rfl⟩

/-- What one step has read; behind an error nothing. -/
def RTook (e : Int) (T : Res Nat) (v p' : Nat) (e' : Int) : Prop := (e = 0 ∧ Took 0 T v p' e') ∨ (e ≠ 0 ∧ v = 0 ∧ e' = e)
def RNumPost (base s : Nat) (bs : List Int) (p : Nat) (out : List Int) (most e : Int) (n : Nat) (w : World) (ev : Ending) (w' : World) : Prop :=
  ∃ v p' e', ev = .returned (.int .i64 ((v : Nat) : Int)) ∧ v < 2 ^ n ∧ RefOk w' base s bs p' out most e' ∧ StStep w w' base s s ∧ RTook e (numR (bitsOf bs) p n) v p' e' ∧ w'.cell? ⟨s, 2, none⟩ = w.cell? ⟨s, 2, none⟩
theorem numOf_one (x : Int) (h : x = 0 ∨ x = 1) : (numOf [x] : Int) = x := by
  rcases h with rfl | rfl <;> rfl
theorem bit_or {bt : List Int} (h : Bit01 bt) (i : Nat) : bt.getD i 0 = 0 ∨ bt.getD i 0 = 1 := by
  by_cases hi : i < bt.length
  · rw [List.getD_eq_getElem?_getD, List.getElem?_eq_getElem hi]
    exact h _ (List.getElem_mem _)
  · rw [List.getD_eq_getElem?_getD, List.getElem?_eq_none (by omega)]
    exact .inl rfl
theorem num_snoc (bt : List Int) (p i : Nat) (h : p + i < bt.length) (h01 : bt.getD (p + i) 0 = 0 ∨ bt.getD (p + i) 0 = 1) : (numOf ((bt.drop p).take (i + 1)) : Int) = numOf ((bt.drop p).take i) + bt.getD (p + i) 0 * 2 ^ i := by
  have h1 : (bt.drop p).take (i + 1) = (bt.drop p).take i ++ [bt.getD (p + i) 0] := by
    rw [take_snoc _ _ (by rw [List.length_drop]; omega)]
    simp
  rw [h1, numOf_append, List.length_take, List.length_drop, Nat.min_eq_left (by omega)]
  have := numOf_one _ h01
  push_cast
  rw [this]
theorem shl_step (X i : Nat) (y : Int) (hX : X < 2 ^ i) (hi : i < 32) (hy : y = 0 ∨ y = 1) : IntKind.i64.wrap ((X : Int) + IntKind.i64.wrap (y * 2 ^ min (IntKind.u64.wrap (i : Int)).toNat 64)) = X + y * 2 ^ i := by
  have h1 : IntKind.u64.wrap (i : Int) = i := by
    show (i : Int) % 18446744073709551616 = i
    omega
  rw [h1, Int.toNat_natCast, Nat.min_eq_left (by omega)]
  have hp : (2 : Int) ^ i ≤ 2147483648 := by
    have : 2 ^ i ≤ 2 ^ 31 := Nat.pow_le_pow_right (by omega) (by omega)
    have h2 : ((2 ^ i : Nat) : Int) ≤ ((2 ^ 31 : Nat) : Int) := by exact_mod_cast this
    simpa using h2
  have hX' : (X : Int) < 2 ^ i := by exact_mod_cast hX
  rcases hy with rfl | rfl
  · rw [Int.zero_mul, IntWalk.i64_in 0 (by omega), IntWalk.i64_in _ (by omega)]
  · rw [Int.one_mul, IntWalk.i64_in ((2 : Int) ^ i) (by omega), IntWalk.i64_in _ (by omega)]
def RNum (bt : List Int) (p n : Nat) (w : World) (k : Nat) (vv iv : Value) (wr : World) : Prop :=
  ∃ i : Nat, i + k = n ∧ iv = .int .i64 (i : Int) ∧ vv = .int .i64 (numOf ((bt.drop p).take i) : Int) ∧ ∃ d, wr = w.drewN d
set_option maxHeartbeats 1600000 in
theorem rnumber_any (base s : Nat) (bs : List Int) (p : Nat) (out : List Int) (most e : Int) (n : Nat) (w : World) (h : RefOk w base s bs p out most e) (hB : Bytes bs) (hl : bs.length ≤ 1000000000) (hn : n ≤ 32) :
    Calls Tryd.prog 34 #[.pointer (some ⟨s, 0, none⟩), .int .i64 (n : Int)] w (RNumPost base s bs p out most e n w) := by
  have H := Lib.hid h
  obtain ⟨h1, h2, h3, h4, A, c, v, h5, h6, h7, h8, h9⟩ := h
  have HV := Lib.hid h5
  have c0 := h5.cell (i := 0) (v := .slice A (8 * bs.length) c) rfl
  have c1 := h5.cell (i := 1) (v := .int .i64 (p : Int)) rfl
  have c4 := h5.cell (i := 4) (v := .int .i64 e) rfl
  have HR := Lib.hid h6
  have HO := Lib.hid h8
  have H9 := Lib.hid h9
  clear h5 h6 h7 h8 h9
  have L1 := Lib.hid ((Below.refl w.heap.size w).drew)
  by_cases he : e = 0
  · subst he
    by_cases hlt : 8 * bs.length < p + n
    · have d : decide (8 * (bs.length : Int) < (p : Int) + n) = true := by simp; omega
      go_enter Tryd.func34, Tryd.ntmps34
      go_wp2
      refine wp_region_qs (fun _ w' => w'.cell? ⟨s, 0, none⟩ = some (.slice A (8 * bs.length) c) ∧ w'.cell? ⟨s, 1, none⟩ = some (.int .i64 (p : Int)) ∧ w'.cell? ⟨s, 4, none⟩ = some (.int .i64 0)) [(0, some 0), (1, some 0), (2, some 0), (3, some 0), (4, some 0), (5, some 0), (6, some 0), (7, some 0), (8, some 0), (9, some 0), (10, some 0), (11, some 0), (12, some 0), (13, some 0), (14, some 0), (15, some 0), (16, some 0), (17, some 0), (18, some 0)] (by kernel_rfl) (by kernel_rfl) (by kernel_rfl) (by kernel_rfl) (by kernel_rfl) (fun _ _ _ _ _ h => h) ⟨c0, c1, c4⟩ ?_
      simp only [List.map_cons, List.map_nil, List.getD_cons_succ, List.getD_cons_zero]
      (repeat (first | (refine qs_now (v := ?_) (by rfl) ?_ ?_; rotate_left 1; (· (intro w' hS; go_simp; (try (simp only [↓IntWalk.iteOmega]; go_simp)); (try simp (disch := omega) only [IntWalk.i64_in]); try with_reducible rfl)); simp only [Act.put, List.setIfInBounds_toArray, List.set_cons_zero, List.set_cons_succ]) | (refine qs_run (v := ?_) (by rfl) ?_ ?_; rotate_left 1; (· (intro j w' hS; go_simp; (try (simp only [↓IntWalk.iteOmega]; go_simp)); (try simp (disch := omega) only [IntWalk.i64_in]); try with_reducible rfl)); simp only [Act.put, List.setIfInBounds_toArray, List.set_cons_zero, List.set_cons_succ]) | (refine qs_skip (by rfl) ?_; simp only [Act.put, List.setIfInBounds_toArray, List.set_cons_zero, List.set_cons_succ])))
      refine qs_nil ?_
      have H1 := Lib.hid (H.out.below L1.out)
      go_wp2_with (go_at_call 38; refine (rfail_any base s bs p out most 0 4 w.drew H1.out).mono ?_; rintro ev w2 ⟨rfl, h2', s2, k2⟩; have H2 := Lib.hid h2'; have K2 := Lib.hid k2; have S2 := Lib.hid ((StStep.of_below L1.out h3).trans s2); clear h2' s2 k2)
      go_ret
      refine ⟨0, p, 4, rfl, Nat.two_pow_pos n, H2.out, S2.out, .inl ⟨rfl, ?_⟩, ?_⟩
      · unfold numR
        rw [if_neg (by rw [bitsOf_len]; omega)]
        exact ⟨rfl, rfl⟩
      · exact K2.out
    · have d : decide (8 * (bs.length : Int) < (p : Int) + n) = false := by simp; omega
      have c0' : w.drew.cell? ⟨s, 0, none⟩ = some (.slice A (8 * bs.length) c) := c0
      go_enter Tryd.func34, Tryd.ntmps34
      go_wp2
      refine wp_region_qs (fun _ w' => w'.cell? ⟨s, 0, none⟩ = some (.slice A (8 * bs.length) c) ∧ w'.cell? ⟨s, 1, none⟩ = some (.int .i64 (p : Int)) ∧ w'.cell? ⟨s, 4, none⟩ = some (.int .i64 0)) [(0, some 0), (1, some 0), (2, some 0), (3, some 0), (4, some 0), (5, some 0), (6, some 0), (7, some 0), (8, some 0), (9, some 0), (10, some 0), (11, some 0), (12, some 0), (13, some 0), (14, some 0), (15, some 0), (16, some 0), (17, some 0), (18, some 0)] (by kernel_rfl) (by kernel_rfl) (by kernel_rfl) (by kernel_rfl) (by kernel_rfl) (fun _ _ _ _ _ h => h) ⟨c0, c1, c4⟩ ?_
      simp only [List.map_cons, List.map_nil, List.getD_cons_succ, List.getD_cons_zero]
      (repeat (first | (refine qs_now (v := ?_) (by rfl) ?_ ?_; rotate_left 1; (· (intro w' hS; go_simp; (try (simp only [↓IntWalk.iteOmega]; go_simp)); (try simp (disch := omega) only [IntWalk.i64_in]); try with_reducible rfl)); simp only [Act.put, List.setIfInBounds_toArray, List.set_cons_zero, List.set_cons_succ]) | (refine qs_run (v := ?_) (by rfl) ?_ ?_; rotate_left 1; (· (intro j w' hS; go_simp; (try (simp only [↓IntWalk.iteOmega]; go_simp)); (try simp (disch := omega) only [IntWalk.i64_in]); try with_reducible rfl)); simp only [Act.put, List.setIfInBounds_toArray, List.set_cons_zero, List.set_cons_succ]) | (refine qs_skip (by rfl) ?_; simp only [Act.put, List.setIfInBounds_toArray, List.set_cons_zero, List.set_cons_succ])))
      refine qs_nil ?_
      go_wp2
      go_loopg [5, 6] n (RNum (bitsOf bs) p n w)
      case atStart => exact ⟨0, by omega, rfl, rfl, 1, rfl⟩
      case round =>
        obtain ⟨i, hi, rfl, rfl, dd, rfl⟩ := hrel
        have hnl := numOf_lt (a := ((bitsOf bs).drop p).take i) (fun x hx => bitsOf_01 bs x (List.mem_of_mem_drop (List.mem_of_mem_take hx)))
        rw [List.length_take, List.length_drop, bitsOf_len, Nat.min_eq_left (by omega)] at hnl
        by_cases hlt : i < n
        · have hltI : (i : Int) < n := by omega
          have HN := Lib.hid (num_snoc (bitsOf bs) p i (by rw [bitsOf_len]; omega) (bit_or (bitsOf_01 bs) _))
          obtain ⟨b, off, rfl, hblt, hcells⟩ := HR.out.2 (by omega)
          have cx := hcells (p + i) (by omega)
          have hbit := bit_or (bitsOf_01 bs) (p + i)
          clear hcells
          generalize (bitsOf bs).getD (p + i) 0 = y at *
          have hpw : 2 ^ i ≤ 2 ^ 31 := Nat.pow_le_pow_right (by omega) (by omega)
          generalize hX : numOf (((bitsOf bs).drop p).take i) = X at *
          have q0 : (w.drewN dd).cell? ⟨s, 0, none⟩ = some (.slice (some ⟨b, off, none⟩) (8 * bs.length) c) := c0
          have q1 : (w.drewN dd).cell? ⟨s, 1, none⟩ = some (.int .i64 (p : Int)) := c1
          have qx : (w.drewN dd).cell? ⟨b, off + ((p : Int) + (i : Int)).toNat, none⟩ = some (.int .i64 y) := by rw [show ((p : Int) + (i : Int)).toNat = p + i by omega]; exact cx
          clear hX
          go_wp2
          refine wp_region_qs (fun _ w' => w'.cell? ⟨s, 0, none⟩ = some (.slice (some ⟨b, off, none⟩) (8 * bs.length) c) ∧ w'.cell? ⟨s, 1, none⟩ = some (.int .i64 (p : Int)) ∧ w'.cell? ⟨b, off + ((p : Int) + (i : Int)).toNat, none⟩ = some (.int .i64 y)) [(0, some 0), (1, some 0), (2, some 0), (3, some 0), (4, some 0), (5, some 0), (6, some 0), (7, some 0), (8, some 0), (9, some 0), (10, some 0), (11, some 0), (12, some 0), (13, some 0), (14, some 0), (15, some 0), (16, some 0), (17, some 0)] (by kernel_rfl) (by kernel_rfl) (by kernel_rfl) (by kernel_rfl) (by kernel_rfl) (fun _ _ _ _ _ h => h) ⟨q0, q1, qx⟩ ?_
          simp only [List.map_cons, List.map_nil, List.getD_cons_succ, List.getD_cons_zero]
          (repeat (first | (refine qs_now (v := ?_) (by rfl) ?_ ?_; rotate_left 1; (· (intro w' hS; go_simp; (try (simp only [↓IntWalk.iteOmega]; go_simp)); (try simp (disch := omega) only [IntWalk.i64_in]); try with_reducible rfl)); simp only [Act.put, List.setIfInBounds_toArray, List.set_cons_zero, List.set_cons_succ]) | (refine qs_run (v := ?_) (by rfl) ?_ ?_; rotate_left 1; (· (intro j w' hS; go_simp; (try (simp only [↓IntWalk.iteOmega]; go_simp)); (try simp (disch := omega) only [IntWalk.i64_in]); try with_reducible rfl)); simp only [Act.put, List.setIfInBounds_toArray, List.set_cons_zero, List.set_cons_succ]) | (refine qs_skip (by rfl) ?_; simp only [Act.put, List.setIfInBounds_toArray, List.set_cons_zero, List.set_cons_succ])))
          refine qs_nil ?_
          rw [shl_step X i y hnl (by omega) hbit]
          go_wp2
          go_roundg (gk - 1)
          case measure => omega
          case rel => exact ⟨i + 1, by omega, by go_num, by rw [HN.out], dd + 1, rfl⟩
        · obtain rfl : i = n := by omega
          have q1 : (w.drewN dd).cell? ⟨s, 1, none⟩ = some (.int .i64 (p : Int)) := c1
          have B1 : Blk (w.drewN dd) s 64 #[.slice A (8 * bs.length) c, .int .i64 (p : Int), v, .int .i64 most, .int .i64 0] := HV.out.drewN dd
          have f1 := B1.free 1
          have HB1 := Lib.hid B1
          clear B1
          obtain ⟨w3, hw3⟩ : ∃ w3, w3 = w.drewN dd := ⟨_, rfl⟩
          have L3 := Lib.hid (show Below w.heap.size w w3 by rw [hw3]; exact below_drewN (Below.refl _ _) _)
          rw [← hw3] at q1 f1 HB1
          rw [← hw3]
          clear hw3
          go_wp2
          go_ret
          have G := grown_put w3 ⟨s, 1, none⟩ (.int .i64 ((p : Int) + i))
          have ht := (H.out.below L3.out).turn (p' := p + i) HB1.out G (by have := HB1.out.put 1 (.int .i64 ((p : Int) + i)); simpa using this) (by omega) (own_below HO.out L3.out) H9.out h4
          refine ⟨_, p + i, 0, rfl, hnl, ht.1, (StStep.of_below L3.out h3).trans ht.2, .inl ⟨rfl, ?_⟩, ?_⟩
          · unfold numR
            rw [if_pos (by rw [bitsOf_len]; omega)]
            exact ⟨rfl, rfl, rfl⟩
          · exact ((HB1.out.put 1 _).cell (i := 2) rfl).trans (HV.out.cell (i := 2) rfl).symm
  · have d : (e != 0) = true := by simpa using he
    go_enter Tryd.func34, Tryd.ntmps34
    go_wp2
    refine wp_region_qs (fun _ w' => w'.cell? ⟨s, 0, none⟩ = some (.slice A (8 * bs.length) c) ∧ w'.cell? ⟨s, 1, none⟩ = some (.int .i64 (p : Int)) ∧ w'.cell? ⟨s, 4, none⟩ = some (.int .i64 e)) [(0, some 0), (1, some 0), (2, some 0), (3, some 0), (4, some 0), (5, some 0), (6, some 0), (7, some 0), (8, some 0), (9, some 0), (10, some 0), (11, some 0), (12, some 0), (13, some 0), (14, some 0), (15, some 0), (16, some 0), (17, some 0), (18, some 0)] (by kernel_rfl) (by kernel_rfl) (by kernel_rfl) (by kernel_rfl) (by kernel_rfl) (fun _ _ _ _ _ h => h) ⟨c0, c1, c4⟩ ?_
    simp only [List.map_cons, List.map_nil, List.getD_cons_succ, List.getD_cons_zero]
    (repeat (first | (refine qs_now (v := ?_) (by rfl) ?_ ?_; rotate_left 1; (· (intro w' hS; go_simp; (try (simp only [↓IntWalk.iteOmega]; go_simp)); (try simp (disch := omega) only [IntWalk.i64_in]); try with_reducible rfl)); simp only [Act.put, List.setIfInBounds_toArray, List.set_cons_zero, List.set_cons_succ]) | (refine qs_run (v := ?_) (by rfl) ?_ ?_; rotate_left 1; (· (intro j w' hS; go_simp; (try (simp only [↓IntWalk.iteOmega]; go_simp)); (try simp (disch := omega) only [IntWalk.i64_in]); try with_reducible rfl)); simp only [Act.put, List.setIfInBounds_toArray, List.set_cons_zero, List.set_cons_succ]) | (refine qs_skip (by rfl) ?_; simp only [Act.put, List.setIfInBounds_toArray, List.set_cons_zero, List.set_cons_succ])))
    refine qs_nil ?_
    have H1 := Lib.hid (H.out.below L1.out)
    go_wp2_with (go_at_call 38; refine (rfail_any base s bs p out most e 4 w.drew H1.out).mono ?_; rintro ev w2 ⟨rfl, h2', s2, k2⟩; have H2 := Lib.hid h2'; have K2 := Lib.hid k2; have S2 := Lib.hid ((StStep.of_below L1.out h3).trans s2); clear h2' s2 k2)
    go_ret
    rw [if_neg he] at H2
    refine ⟨0, p, e, rfl, Nat.two_pow_pos n, H2.out, S2.out, .inr ⟨he, rfl, rfl⟩, K2.out⟩
end Go.Proofs.YtlhaehefhhcgaaaDoor
namespace Go.Proofs.YtlhaehefhhcgaaaDoor
set_option linter.unusedVariables false

def keyL (l : Nat) (c : Int) : Lit := .int .i64 (2 ^ l + c)
def TreeD (zs : List Int) (m : Nat) (D : DataW Unit) : Prop :=
  Maps.IsMap D ∧ ∀ l c, 1 ≤ l → 0 ≤ c → c < 2 ^ l →
    (Maps.has D (keyL l c) = true ↔ ∃ j, j < m ∧ zs.getD j 0 = ((l : Nat) : Int) ∧ codeAt zs j = c) ∧
    (∀ x, Maps.has D (keyL l c) = true → D.atKey (keyL l c) (.lit (.int .i64 0)) = .lit (.int .i64 x) → ∃ j : Nat, j < m ∧ x = (j : Int) ∧ zs.getD j 0 = ((l : Nat) : Int) ∧ codeAt zs j = c)
theorem keyL_inj {l m : Nat} {c d : Int} (h1 : 0 ≤ c) (h2 : c < 2 ^ l) (h3 : 0 ≤ d) (h4 : d < 2 ^ m) (h : keyL l c = keyL m d) : l = m ∧ c = d := by
  unfold keyL at h
  injection h with _ h
  have hlm : l = m := by
    rcases Nat.lt_trichotomy l m with hl | hl | hl
    · have : (2 : Int) ^ (l + 1) ≤ 2 ^ m := by exact_mod_cast Nat.pow_le_pow_right (n := 2) (by omega) (show l + 1 ≤ m by omega)
      rw [Int.pow_succ] at this
      omega
    · exact hl
    · have : (2 : Int) ^ (m + 1) ≤ 2 ^ l := by exact_mod_cast Nat.pow_le_pow_right (n := 2) (by omega) (show m + 1 ≤ l by omega)
      rw [Int.pow_succ] at this
      omega
  subst hlm
  exact ⟨rfl, by omega⟩
theorem tree_zero (zs : List Int) : TreeD zs 0 (.map []) := by
  refine ⟨Maps.isMap_empty, fun l c h1 h2 h3 => ⟨⟨fun h => ?_, fun ⟨j, h, _⟩ => absurd h (by omega)⟩, fun x h => ?_⟩⟩
  · rw [Maps.has_eq] at h; cases h
  · rw [Maps.has_eq] at h; cases h
theorem tree_pass {zs : List Int} {m : Nat} {D : DataW Unit} (h : TreeD zs m D) (hz : zs.getD m 0 ≤ 0) : TreeD zs (m + 1) D := by
  refine ⟨h.1, fun l c h1 h2 h3 => ?_⟩
  obtain ⟨a, b⟩ := h.2 l c h1 h2 h3
  refine ⟨a.trans ⟨fun ⟨j, hj, e1, e2⟩ => ⟨j, by omega, e1, e2⟩, fun ⟨j, hj, e1, e2⟩ => ⟨j, ?_, e1, e2⟩⟩, fun x hx hk => ?_⟩
  · rcases Nat.lt_or_ge j m with h | h
    · exact h
    · obtain rfl : j = m := by omega
      omega
  · obtain ⟨j, hj, e⟩ := b x hx hk
    exact ⟨j, by omega, e⟩
theorem tree_put {zs : List Int} {m l0 : Nat} {D : DataW Unit} (h : TreeD zs m D) (hl0 : 1 ≤ l0) (hz : zs.getD m 0 = (l0 : Int)) (hc0 : 0 ≤ codeAt zs m) (hc1 : codeAt zs m < 2 ^ l0) : TreeD zs (m + 1) (D.put (keyL l0 (codeAt zs m)) (.lit (.int .i64 (m : Int)))) := by
  have hk : WideAt.IsKeyLit (keyL l0 (codeAt zs m)) := by unfold keyL WideAt.IsKeyLit; trivial
  refine ⟨h.1.put _ _, fun l c h1 h2 h3 => ?_⟩
  obtain ⟨a, b⟩ := h.2 l c h1 h2 h3
  by_cases hkey : keyL l c = keyL l0 (codeAt zs m)
  · obtain ⟨rfl, rfl⟩ := keyL_inj h2 h3 hc0 hc1 hkey
    refine ⟨⟨fun _ => ⟨m, by omega, hz, rfl⟩, fun _ => Maps.has_put_same h.1 hk _⟩, fun x _ hx => ?_⟩
    rw [Maps.atKey_put_same h.1 hk] at hx
    injection hx with hx
    injection hx with _ hx
    exact ⟨m, by omega, hx.symm, hz, rfl⟩
  · rw [Maps.has_put_other hkey, Maps.atKey_put_other hkey]
    refine ⟨a.trans ⟨fun ⟨j, hj, e1, e2⟩ => ⟨j, by omega, e1, e2⟩, fun ⟨j, hj, e1, e2⟩ => ⟨j, ?_, e1, e2⟩⟩, fun x hx hk => ?_⟩
    · rcases Nat.lt_or_ge j m with h | h
      · exact h
      · obtain rfl : j = m := by omega
        rw [hz] at e1
        obtain rfl : l0 = l := by omega
        exact absurd (by rw [e2]) hkey
    · obtain ⟨j, hj, e⟩ := b x hx hk
      exact ⟨j, by omega, e⟩

/-- What is found is what the decoder finds. -/
theorem tree_find {zs : List Int} {D : DataW Unit} (h : TreeD zs zs.length D) {bt : List Int} (h01 : Bit01 bt) {l : Nat} (hl : 1 ≤ l) :
    Maps.has D (keyL l (codeB bt l)) = hit zs bt l ∧ (∀ x, hit zs bt l = true → D.atKey (keyL l (codeB bt l)) (.lit (.int .i64 0)) = .lit (.int .i64 x) → x = symAt zs bt l) := by
  have hb := codeB_bd h01 l
  obtain ⟨a, b⟩ := h.2 l (codeB bt l) hl hb.1 (by omega)
  have hf := find_hit zs bt l (by omega)
  have hiff : Maps.has D (keyL l (codeB bt l)) = true ↔ hit zs bt l = true := by
    rw [a]
    constructor
    · rintro ⟨j, hj, e1, e2⟩
      by_cases hh : hit zs bt l = true
      · exact hh
      · rw [if_neg hh] at hf
        unfold findB at hf
        rw [List.find?_eq_none] at hf
        have := hf j (by simpa using hj)
        exact absurd (by rw [e1, e2]; simp; omega) this
    · intro hh
      rw [if_pos hh] at hf
      have h1 := List.find?_some hf
      have h2 := List.mem_of_find?_eq_some hf
      simp only [Bool.and_eq_true, decide_eq_true_eq, beq_iff_eq, List.mem_range] at h1 h2
      exact ⟨_, h2, h1.2.1, h1.2.2⟩
  refine ⟨by rw [Bool.eq_iff_iff]; exact hiff, fun x hh hx => ?_⟩
  obtain ⟨j, hj, rfl, e1, e2⟩ := b x (hiff.2 hh) hx
  have h1 := code_of (by omega) e1
  have h2 := sym_at zs l j hj e1
  unfold symAt
  have h3 : codeB bt l - firstAt zs l = (cnt (zs.take j) l : Int) := by omega
  rw [h3, Int.toNat_natCast, List.getD_eq_getElem?_getD, h2]
  rfl

theorem go_none {zs bt : List Int} : ∀ f l, (∀ k, l < k → k ≤ l + f → k ≤ bt.length → hit zs bt k = false) → (nextGo zs bt f l).1 = none
  | 0, l, _ => rfl
  | f + 1, l, h => by
    simp only [nextGo]
    split
    · rw [if_neg (by rw [h (l + 1) (by omega) (by omega) (by omega)]; simp)]
      exact go_none f (l + 1) (fun k h1 h2 h3 => h k (by omega) (by omega) h3)
    · rfl
theorem go_some {zs bt : List Int} : ∀ f l n, l ≤ n → n < l + f → n < bt.length → (∀ k, l < k → k ≤ n → hit zs bt k = false) → hit zs bt (n + 1) = true → nextGo zs bt f l = (some (symAt zs bt (n + 1)), n + 1)
  | 0, l, n, h1, h2, _, _, _ => by omega
  | f + 1, l, n, h1, h2, h3, h4, h5 => by
    simp only [nextGo]
    rw [if_pos (by omega)]
    rcases Nat.eq_or_lt_of_le h1 with rfl | hlt
    · rw [if_pos h5]
    · rw [if_neg (by rw [h4 (l + 1) (by omega) (by omega)]; simp)]
      exact go_some f (l + 1) n (by omega) (by omega) h3 (fun k a b => h4 k (by omega) b) h5
theorem hit_max {zs bt : List Int} {l : Nat} (hl : 1 ≤ l) (h : hit zs bt l = true) : (l : Int) ≤ maxL zs := by
  have hf := find_hit zs bt l (by omega)
  rw [if_pos h] at hf
  have h1 := List.find?_some hf
  have h2 := List.mem_of_find?_eq_some hf
  simp only [Bool.and_eq_true, decide_eq_true_eq, beq_iff_eq, List.mem_range] at h1 h2
  have := maxL_ge h2
  omega
theorem symR_none {bt zs : List Int} {p : Nat} (h : ∀ k, 0 < k → k ≤ (bt.drop p).length → hit zs (bt.drop p) k = false) : symR bt zs p = .bad false := by
  have := go_none (zs := zs) (bt := bt.drop p) (maxL zs).toNat 0 (fun k h1 _ h3 => h k h1 h3)
  unfold symR nextOf
  revert this
  rcases nextGo zs (bt.drop p) (maxL zs).toNat 0 with ⟨_ | x, k⟩
  · intro _; rfl
  · intro h; cases h
theorem symR_some {bt zs : List Int} {p n : Nat} (hn : p + n < bt.length) (h : NoHit zs (bt.drop p) n) (hh : hit zs (bt.drop p) (n + 1) = true) : symR bt zs p = .ok (symAt zs (bt.drop p) (n + 1)).toNat (p + (n + 1)) := by
  have hm := hit_max (by omega) hh
  have := go_some (zs := zs) (bt := bt.drop p) (maxL zs).toNat 0 n (by omega) (by omega) (by rw [List.length_drop]; omega) (fun k a b => h k a b) hh
  unfold symR nextOf
  rw [this]
end Go.Proofs.YtlhaehefhhcgaaaDoor
namespace Go.Proofs.YtlhaehefhhcgaaaDoor
open Go.RowKit Go.Maps
set_option linter.unusedVariables false

def TreeOk (w : World) (b : Nat) (zs : List Int) : Prop := ∃ n D, w.ownsMap Tryd.prog 3 (plainElem (H := Unit) Tryd.prog 3) b n D ∧ TreeD zs zs.length D
theorem TreeOk.below {w w' : World} {b : Nat} {zs : List Int} (h : TreeOk w b zs) (hb : Below w.heap.size w w') : TreeOk w' b zs := by
  obtain ⟨n, D, h1, h2⟩ := h
  exact ⟨n, D, h1.kept (row := none) ⟨hb.os, hb.tape, hb.output, hb.size, fun k hk _ => hb.block k hk⟩ (by simp), h2⟩
theorem TreeOk.step {w w' : World} {base s b : Nat} {zs : List Int} (h : TreeOk w b zs) (hst : StStep w w' base s s) (hs : ∃ cs, Blk w s 64 cs) : TreeOk w' b zs := by
  obtain ⟨n, D, ⟨es, cl, h1, h3⟩, h2⟩ := h
  refine ⟨n, D, ⟨es, cl, ?_, h3⟩, h2⟩
  have hlt : b < w.heap.size := by
    rcases Nat.lt_or_ge b w.heap.size with hlt | hge
    · exact hlt
    · rw [Array.getElem?_eq_none hge] at h1; cases h1
  have hne : b ≠ s := by
    rintro rfl
    obtain ⟨cs, hs⟩ := hs
    unfold Blk at hs
    rw [h1] at hs
    cases hs
  exact (hst.typ b hlt (fun cs f e => by rw [h1] at e; cases e) hne hne).trans h1

def MadePost (zs : List Int) (w : World) (ev : Ending) (w' : World) : Prop :=
  ∃ b, ev = .returned (.tuple #[.agg #[.map (some b)], .bool (countsOk zs)]) ∧ w.heap.size ≤ b ∧ (countsOk zs = true → TreeOk w' b zs) ∧ Below w.heap.size w w'
theorem law_int : Keyed Tryd.prog 3 := int_keyed Tryd.underlying3
theorem zero_int (w : World) : (zeroValue 3).run Tryd.prog w = .ok (.int .i64 0) w := by kernel_rfl
theorem infoTree : (Tryd.prog.info? 117).map (·.size) = some 1 := by kernel_rfl
def MadeI (zs : List Int) (n gm : Nat) (w2 : World) (k : Nat) (iv : Value) (wr : World) : Prop :=
  ∃ i : Nat, i + k = n ∧ iv = .int .i64 (i : Int) ∧ (∃ m D, m ≤ i ∧ wr.ownsMap Tryd.prog 3 (plainElem (H := Unit) Tryd.prog 3) gm m D ∧ TreeD zs i D) ∧ Below gm w2 wr ∧ Blk wr (gm + 1) 117 #[.map (some gm)]
def MadeE (w3 : World) (k : Nat) (iv : Value) (wr : World) : Prop := iv = .int .i64 0 ∧ wr = w3
theorem mapKey_num (l : Nat) (c : Int) (hl : l ≤ 15) (hc0 : 0 ≤ c) (hc : c < 2 ^ l) : IntKind.i64.wrap (IntKind.i64.wrap (2 ^ min (IntKind.u64.wrap (l : Int)).toNat 64) + c) = 2 ^ l + c := by
  rw [IntWalk.u64_in _ (by omega), Int.toNat_natCast, Nat.min_eq_left (by omega)]
  have hp : (2 : Int) ^ l ≤ 32768 := by
    have : 2 ^ l ≤ 2 ^ 15 := Nat.pow_le_pow_right (by omega) (by omega)
    have h2 : ((2 ^ l : Nat) : Int) ≤ ((2 ^ 15 : Nat) : Int) := by exact_mod_cast this
    simpa using h2
  rw [IntWalk.i64_in ((2 : Int) ^ l) (by omega), IntWalk.i64_in _ (by omega)]
set_option maxHeartbeats 1600000 in
theorem made_any (zs : List Int) (A : Option Addr) (n cap : Nat) (w : World) (hr : RdI .i64 w A n zs) (hn : n ≤ 1000) :
    Calls Tryd.prog 61 #[.slice A n cap] w (MadePost zs w) := by
  have HR := Lib.hid hr
  have hmm := @run_makeMap Tryd.prog
  clear hr
  go_enter Tryd.func61, Tryd.ntmps61
  go_wp2_with fail
  obtain ⟨w1, hw1⟩ : ∃ w1, w1 = w.alloc (.cells #[.map none] 117) := ⟨_, rfl⟩
  rw [← hw1]
  have L1 := Lib.hid (show Below w.heap.size w w1 by rw [hw1]; exact (Below.refl _ _).alloc (Nat.le_refl _) _)
  have K1 := Lib.hid (show Blk w1 w.heap.size 117 #[.map none] by rw [hw1]; exact Blk.made _ _ _)
  clear hw1
  refine (rcodes_any zs A n cap w1 (HR.out.below L1.out) (by omega)).mono ?_
  rintro ev w2 (⟨hok, rfl, hb2⟩ | ⟨hok, Ac, cc, rfl, ho2, hb2⟩)
  · have L2 := Lib.hid (below_chain L1.out hb2)
    have K2 := Lib.hid (K1.out.below hb2 K1.out.lt)
    clear hb2 K1 L1
    have hlt2 := K2.out.lt
    go_wp2
    obtain ⟨w3, hw3⟩ : ∃ w3, w3 = (w2.alloc (.map #[] 0)).alloc (.cells #[.map (some w2.heap.size)] 117) := ⟨_, rfl⟩
    rw [← hw3]
    have LL := Lib.hid (show Below w2.heap.size w2 w3 by rw [hw3]; exact ((Below.refl _ _).alloc (Nat.le_refl _) _).alloc (by simp) _)
    have K6 := Lib.hid (show Blk w3 (w2.heap.size + 1) 117 #[.map (some w2.heap.size)] by rw [hw3]; exact Blk.made_at _ _ _ (by simp))
    have K3 := Lib.hid (K2.out.below LL.out hlt2)
    clear hw3
    go_loopg [7] 0 (MadeE w3)
    case atStart => exact ⟨rfl, rfl⟩
    case round =>
      obtain ⟨rfl, rfl⟩ := hrel
      have c6 := K6.out.cell (i := 0) rfl
      have c2 := K3.out.cell (i := 0) rfl
      have f2 := K3.out.free 0
      go_wp2
      have B4 := K3.out.put 0 (.map (some w2.heap.size))
      refine bodyPost_ret (results_blk_tmp rfl _ w.heap.size rfl _ _ B4 _ Tryd.underlying117 rfl 1 infoTree rfl) rfl ?_
      refine ⟨w2.heap.size, by rw [hok]; rfl, by omega, (fun h => by rw [hok] at h; cases h), ?_⟩
      exact (below_chain L2.out LL.out).setCell (Nat.le_refl _) _
  · have L2 := Lib.hid (below_chain L1.out hb2)
    have K2 := Lib.hid (K1.out.below hb2 K1.out.lt)
    have C2 := Lib.hid (RdI.of_own ho2)
    have R2 := Lib.hid ((HR.out.below L1.out).below hb2)
    have hzl : zs.length = n := HR.out.1
    have HZl := Lib.hid hzl
    clear hb2 K1 L1 ho2 hzl
    have hlt2 := K2.out.lt
    go_wp2
    obtain ⟨w3, hw3⟩ : ∃ w3, w3 = (w2.alloc (.map #[] 0)).alloc (.cells #[.map (some w2.heap.size)] 117) := ⟨_, rfl⟩
    rw [← hw3]
    have LL := Lib.hid (show Below w2.heap.size w2 w3 by rw [hw3]; exact ((Below.refl _ _).alloc (Nat.le_refl _) _).alloc (by simp) _)
    have K6 := Lib.hid (show Blk w3 (w2.heap.size + 1) 117 #[.map (some w2.heap.size)] by rw [hw3]; exact Blk.made_at _ _ _ (by simp))
    have M3 := Lib.hid (show w3.ownsMap Tryd.prog 3 (plainElem (H := Unit) Tryd.prog 3) w2.heap.size 0 (.map []) by rw [hw3]; exact (World.ownsMap_made w2 _ _ _).alloc _)
    clear hw3
    go_loopg [7] n (MadeI zs n w2.heap.size w2)
    case atStart => exact ⟨0, by omega, rfl, ⟨0, _, Nat.le_refl _, M3.out, tree_zero zs⟩, LL.out, K6.out⟩
    case round =>
      clear M3 K6 LL
      obtain ⟨i, hi, rfl, ⟨m, D, hm, hmap, htree⟩, hb, hk6⟩ := hrel
      have MP := Lib.hid hmap
      have TD := Lib.hid htree
      have B := Lib.hid hb
      have K6 := Lib.hid hk6
      have c6 := hk6.cell (i := 0) rfl
      have K3 := Lib.hid (K2.out.below hb hlt2)
      have hwr := K6.out.lt
      clear hmap htree hb hk6
      by_cases hlt : i < n
      · have hltI : (i : Int) < n := by omega
        have hzl : zs.length = n := HZl.out
        have hzb := okLen_of hok (k := i) (by omega)
        obtain ⟨bz, oz, hAz, hbz, hcz⟩ := R2.out.2 (by omega)
        have cz := (World.cell?_of_block (a := ⟨bz, oz + i, none⟩) (B.out.block bz hbz)).trans (hcz i hlt)
        subst hAz
        clear hcz
        by_cases hz : 0 < zs.getD i 0
        · obtain ⟨l, hl⟩ : ∃ l : Nat, zs.getD i 0 = (l : Int) := ⟨(zs.getD i 0).toNat, by omega⟩
          have hcode := code_lt hok (s := i) (n := l) (by omega) (by omega) (by omega) hl
          obtain ⟨bc, oc, hAc, hbc, hcc⟩ := C2.out.2 (by omega)
          have cc' := (World.cell?_of_block (a := ⟨bc, oc + i, none⟩) (B.out.block bc hbc)).trans (hcc i hlt)
          have hcd : (codesOf zs).getD i 0 = codeAt zs i := by simp [codesOf, hzl, hlt]
          rw [hcd] at cc'
          subst hAc
          have HTP := Lib.hid (tree_put (m := i) (l0 := l) TD.out (by omega) hl hcode.1 hcode.2)
          have HMK := Lib.hid (mapKey_num l (codeAt zs i) (by omega) hcode.1 hcode.2)
          have hpw : (2 : Int) ^ l ≤ 32768 := by
            have : 2 ^ l ≤ 2 ^ 15 := Nat.pow_le_pow_right (by omega) (by omega)
            have h2 : ((2 ^ l : Nat) : Int) ≤ ((2 ^ 15 : Nat) : Int) := by exact_mod_cast this
            simpa using h2
          rw [hl] at cz hzb hz
          have HWF := Lib.hid (show (Lit.int .i64 (2 ^ l + codeAt zs i)).wf = true from WalkArith.wf_i64 (by omega))
          generalize codeAt zs i = cd at *
          clear hcc hcd hl hzl
          go_wp2
          refine wp_region_qs (fun j w' => j ≤ 0 → w'.cell? ⟨w2.heap.size + 1, 0, none⟩ = some (.map (some w2.heap.size)) ∧ w'.cell? ⟨bz, oz + i, none⟩ = some (.int .i64 (l : Int)) ∧ w'.cell? ⟨bc, oc + i, none⟩ = some (.int .i64 cd)) [(0, some 0), (1, some 0), (2, some 0), (3, some 0), (4, some 0), (5, some 0), (6, some 0), (7, some 0), (8, some 0), (9, some 0), (10, some 0), (11, some 0), (12, some 0), (13, some 0), (14, none)] (by kernel_rfl) (by kernel_rfl) (by kernel_rfl) (by kernel_rfl) (by kernel_rfl) (fun _ _ _ _ _ h => h) (fun _ => ⟨c6, cz, cc'⟩) ?_
          simp only [List.map_cons, List.map_nil, List.getD_cons_succ, List.getD_cons_zero]
          (repeat (first | (refine qs_now (v := ?_) (by rfl) ?_ ?_; rotate_left 1; (· (intro w' hS; go_simp; (try (simp only [↓IntWalk.iteOmega]; go_simp)); (try simp (disch := omega) only [IntWalk.i64_in]); try with_reducible rfl)); simp only [Act.put, List.setIfInBounds_toArray, List.set_cons_zero, List.set_cons_succ]) | (refine qs_run (v := ?_) (by rfl) ?_ ?_; rotate_left 1; (· (intro j w' hS; go_simp; (try (simp only [↓IntWalk.iteOmega]; go_simp)); (try simp (disch := omega) only [IntWalk.i64_in]); try with_reducible rfl)); simp only [Act.put, List.setIfInBounds_toArray, List.set_cons_zero, List.set_cons_succ]) | (refine qs_skip (by rfl) ?_; simp only [Act.put, List.setIfInBounds_toArray, List.set_cons_zero, List.set_cons_succ])))
          rw [HMK.out]
          refine qs_act ?_
          refine wpList_mapUpdate_own _ rfl _ _ _ 115 rfl 3 3 law_int Tryd.underlying115 _ w2.heap.size m D rfl MP.out.drew (by unfold maxLen; omega) _ _ _ rfl rfl (keyOf_int_mk Tryd.underlying3 HWF.out) _ [] (plainElem_int Tryd.underlying3 (WalkArith.wf_i64 (by omega))) ?_
          intro w5 hm5 hg5
          have M5 := Lib.hid hm5
          have G5 := Lib.hid hg5
          clear hm5 hg5
          refine wpList_nil ?_
          refine ⟨fun h => absurd h (by omega), ?_⟩
          refine qs_nil ?_
          go_wp2
          go_roundg (gk - 1)
          case measure => omega
          case rel =>
            have hB5 : Below w2.heap.size w2 w5 := (B.out.drew).grown G5.out (by have := B.out.size; simp; omega) (fun k hk => by injection hk with hk; omega)
            exact ⟨i + 1, by omega, by go_num, ⟨m + 1, _, by omega, M5.out, HTP.out⟩, hB5, K6.out.drew.grown G5.out (fun e => by injection e with e; omega)⟩
        · have HTP := Lib.hid (tree_pass TD.out (by omega))
          have hz' : ¬ 0 < zs.getD i 0 := hz
          generalize zs.getD i 0 = z at *
          clear hzl
          go_wp2
          go_roundg (gk - 1)
          case measure => omega
          case rel => exact ⟨i + 1, by omega, by go_num, ⟨m, D, by omega, MP.out, HTP.out⟩, B.out, K6.out⟩
      · obtain rfl : i = n := by omega
        have c2 := K3.out.cell (i := 0) rfl
        have f2 := K3.out.free 0
        go_wp2
        have B4 := K3.out.put 0 (.map (some w2.heap.size))
        refine bodyPost_ret (results_blk_tmp rfl _ w.heap.size rfl _ _ B4 _ Tryd.underlying117 rfl 1 infoTree rfl) rfl ?_
        have L4 : Below w.heap.size w wr := L2.out.trans (B.out.mono (by have := L2.out.size; omega))
        refine ⟨w2.heap.size, by rw [hok]; rfl, by omega, fun _ => ⟨m, D, MP.out.kept (grown_put _ _ _) (fun e => by injection e with e; exact absurd e (by simp; omega)), by rw [HZl.out]; exact TD.out⟩, ?_⟩
        exact L4.setCell (Nat.le_refl _) _
end Go.Proofs.YtlhaehefhhcgaaaDoor
namespace Go.Proofs.YtlhaehefhhcgaaaDoor
open Go.RowKit Go.Maps
set_option linter.unusedVariables false

theorem pow_nat (n : Nat) : ((2 ^ n : Nat) : Int) = (2 : Int) ^ n := by simp
def RSymPost (base s : Nat) (bs zs : List Int) (p : Nat) (out : List Int) (most e : Int) (w : World) (ev : Ending) (w' : World) : Prop :=
  ∃ v p' e', ev = .returned (.int .i64 ((v : Nat) : Int)) ∧ (v = 0 ∨ v < zs.length) ∧ RefOk w' base s bs p' out most e' ∧ StStep w w' base s s ∧ RTook e (symR (bitsOf bs) zs p) v p' e'
def RSym (base s : Nat) (bs zs : List Int) (p : Nat) (out : List Int) (most : Int) (gt b : Nat) (w : World) (k : Nat) (vv iv : Value) (wr : World) : Prop :=
  ∃ (n : Nat) (v e : Int) (pp : Nat), n + k = 15 ∧ iv = .int .i64 (n : Int) ∧ vv = .int .i64 v ∧ 1 ≤ v ∧ v < 2 ^ (n + 1) ∧ RefOk wr base s bs pp out most e ∧ StStep w wr base s s ∧ Blk wr gt 117 #[.map (some b)] ∧ TreeOk wr b zs ∧
    ((e = 0 ∧ pp = p + n ∧ v = 2 ^ n + codeB ((bitsOf bs).drop p) n ∧ NoHit zs ((bitsOf bs).drop p) n) ∨ (e = 4 ∧ symR (bitsOf bs) zs p = .bad false))
theorem NoHit.succ {zs bt : List Int} {n : Nat} (h : NoHit zs bt n) (hh : hit zs bt (n + 1) = false) : NoHit zs bt (n + 1) := fun l h1 h2 => by
  rcases Nat.lt_or_ge n l with h3 | h3
  · obtain rfl : l = n + 1 := by omega
    exact hh
  · exact h l h1 h3
theorem num_one {bt : List Int} (h01 : Bit01 bt) {p : Nat} (hp : p + 1 ≤ bt.length) : (numOf ((bt.drop p).take 1) : Int) = bt.getD p 0 := by
  have := num_snoc bt p 0 (by omega) (bit_or h01 _)
  simp only [Nat.zero_add, List.take_zero, Nat.add_zero, Int.pow_zero, Int.mul_one] at this
  rw [this]; simp [numOf]
def RSymE (w1 : World) (k : Nat) (vv iv : Value) (wr : World) : Prop := vv = .int .i64 1 ∧ iv = .int .i64 0 ∧ wr = w1
set_option maxHeartbeats 1600000 in
theorem rsymbol_any (base s b : Nat) (bs zs : List Int) (p : Nat) (out : List Int) (most e : Int) (w : World) (h : RefOk w base s bs p out most e) (ht : TreeOk w b zs) (hok : countsOk zs = true) (hB : Bytes bs) (hl : bs.length ≤ 1000000000) :
    Calls Tryd.prog 62 #[.pointer (some ⟨s, 0, none⟩), .agg #[.map (some b)]] w (RSymPost base s bs zs p out most e w) := by
  have H := Lib.hid h
  have HT := Lib.hid ht
  have HBy := Lib.hid hB
  have h3 := h.2.2.1
  have hp := h.1
  have hz288 := len_of hok
  have L1 := Lib.hid ((Below.refl w.heap.size w).alloc (Nat.le_refl _) (.cells #[.map (some b)] 117))
  clear h ht hB
  by_cases he : e = 0
  · subst he
    go_enter Tryd.func62, Tryd.ntmps62
    go_wp2
    obtain ⟨w1, hw1⟩ : ∃ w1, w1 = w.alloc (.cells #[.map (some b)] 117) := ⟨_, rfl⟩
    have K1 := Lib.hid (show Blk w1 w.heap.size 117 #[.map (some b)] by rw [hw1]; exact Blk.made _ _ _)
    rw [← hw1] at L1
    rw [← hw1]
    clear hw1
    have H1 := Lib.hid (H.out.below L1.out)
    have T1 := Lib.hid (HT.out.below L1.out)
    have S1 := Lib.hid (StStep.of_below (s := s) (r := s) L1.out h3)
    clear H HT L1
    go_loopg [5, 6] 15 (RSym base s bs zs p out most w.heap.size b w)
    case atStart => exact ⟨0, 1, 0, p, by omega, rfl, rfl, by omega, by decide, H1.out, S1.out, K1.out, T1.out, .inl ⟨rfl, rfl, rfl, fun l h1 h2 => by omega⟩⟩
    case round =>
      clear H1 T1 S1 K1
      obtain ⟨n, v, e, pp, hn, rfl, rfl, hv1, hv2, hs, hst, hk, htr, hcase⟩ := hrel
      have H := Lib.hid hs
      have S := Lib.hid hst
      have K := Lib.hid hk
      have TR := Lib.hid htr
      have CS := Lib.hid hcase
      have c4 := hs.c4
      have hpp := hs.1
      have hpw : (2 : Int) ^ (n + 1) ≤ 65536 := by
        have : 2 ^ (n + 1) ≤ 2 ^ 16 := Nat.pow_le_pow_right (by omega) (by omega)
        rw [← pow_nat]
        omega
      have hpw2 : (2 : Int) ^ (n + 1 + 1) = 2 * 2 ^ (n + 1) := by rw [Int.pow_succ, Int.mul_comm]
      clear hs hst hk htr hcase
      rcases CS.out with ⟨rfl, rfl, hv, hno⟩ | ⟨rfl, hbad⟩
      · have HV := Lib.hid hv
        have HNo := Lib.hid hno
        clear hv hno CS
        by_cases hlt : n < 15
        · have hltI : (n : Int) < 15 := by omega
          go_wp2_with fail
          refine (rnumber_any base s bs (p + n) out most 0 1 wr H.out HBy.out hl (by omega)).mono ?_
          rintro ev w2 ⟨x, p2, e2, rfl, hx, hs2, st2, tk2, _⟩
          have hx2 : x < 2 := hx
          have H2 := Lib.hid hs2
          have S2 := Lib.hid (S.out.trans st2)
          have K2 := Lib.hid (H.out.keepBlk st2 K.out (by decide) (by decide))
          have T2 := Lib.hid (TR.out.step st2 H.out.sblk)
          have c42 := hs2.c4
          have k2 := K2.out.cell (i := 0) rfl
          have TK := Lib.hid (show (x, p2, e2) = (x, p2, e2) ∧ Took 0 (numR (bitsOf bs) (p + n) 1) x p2 e2 by
            rcases tk2 with ⟨_, h⟩ | ⟨h, _⟩
            · exact ⟨rfl, h⟩
            · exact absurd rfl h)
          clear hs2 st2 tk2 H S K TR c4 hx
          obtain ⟨mm, D, hmap, htd⟩ := T2.out
          have MP := Lib.hid hmap
          have TD := Lib.hid htd
          clear hmap htd
          have HWF := Lib.hid (show (Lit.int .i64 (2 * v + (x : Int))).wf = true from WalkArith.wf_i64 (by omega))
          by_cases hbits : p + n + 1 ≤ 8 * bs.length
          · have hny := num_yes (bt := bitsOf bs) (p := p + n) (n := 1) (by rw [bitsOf_len]; exact hbits)
            have h2 := TK.out.2
            rw [hny] at h2
            obtain ⟨hxv, hp2, he2⟩ := h2
            subst hp2 he2
            have hone := num_one (bitsOf_01 bs) (p := p + n) (by rw [bitsOf_len]; exact hbits)
            rw [← hxv] at hone
            have hvv : 2 * v + (x : Int) = 2 ^ (n + 1) + codeB ((bitsOf bs).drop p) (n + 1) := by
              rw [HV.out, hone, codeB]
              have : ((bitsOf bs).drop p).getD n 0 = (bitsOf bs).getD (p + n) 0 := by simp
              rw [this, Int.pow_succ]
              omega
            have hcb := codeB_bd ((bitsOf_01 bs).drop p) (n + 1)
            have HVV := Lib.hid hvv
            have TF := Lib.hid (tree_find TD.out ((bitsOf_01 bs).drop p) (l := n + 1) (by omega))
            clear hvv hone hxv hny TK
            by_cases hhit : hit zs ((bitsOf bs).drop p) (n + 1) = true
            · have HS := Lib.hid (symR_some (by rw [bitsOf_len]; omega) HNo.out hhit)
              have HSB := Lib.hid (symR_ok (by rw [bitsOf_len]; exact hp) HS.out)
              have hhas := TF.out.1
              rw [hhit] at hhas
              unfold keyL at hhas
              rw [← HVV.out] at hhas
              go_wp2_with (first
                | (at_lookup; refine wpList_lookup_own_ok_int _ rfl _ _ 115 rfl 3 3 .i64 law_int Tryd.underlying115 Tryd.underlying3 (zero_int _) b mm D rfl MP.out _ _ rfl (keyOf_int_mk Tryd.underlying3 HWF.out) ?_; intro c hat hwc; have HAt := Lib.hid hat; clear hat hwc)
                | fail)
              go_ret
              have hat := HAt.out
              have hc := TF.out.2 c hhit (by unfold keyL; rw [← HVV.out]; exact hat)
              have hnn := sym_nonneg zs ((bitsOf bs).drop p) (n + 1)
              refine ⟨(symAt zs ((bitsOf bs).drop p) (n + 1)).toNat, p + n + 1, 0, ?_, .inr HSB.out.2.2, H2.out, S2.out, .inl ⟨rfl, ?_⟩⟩
              · show Ending.returned (.int .i64 c) = _
                rw [hc, Int.toNat_of_nonneg hnn]
              · rw [HS.out]
                exact ⟨rfl, rfl, rfl⟩
            · have hhit' : hit zs ((bitsOf bs).drop p) (n + 1) = false := by simpa using hhit
              have hhas := TF.out.1
              rw [hhit'] at hhas
              unfold keyL at hhas
              rw [← HVV.out] at hhas
              go_wp2_with (first
                | (at_lookup; refine wpList_lookup_own_ok_int _ rfl _ _ 115 rfl 3 3 .i64 law_int Tryd.underlying115 Tryd.underlying3 (zero_int _) b mm D rfl MP.out _ _ rfl (keyOf_int_mk Tryd.underlying3 HWF.out) ?_; intro c hat hwc; have HAt := Lib.hid hat; clear hat hwc)
                | fail)
              go_roundg (gk - 1)
              case measure => omega
              case rel => exact ⟨n + 1, 2 * v + x, 0, p + n + 1, by omega, by go_num, rfl, by omega, by omega, H2.out, S2.out, K2.out, T2.out, .inl ⟨rfl, by omega, HVV.out, HNo.out.succ hhit'⟩⟩
          · have h2 := TK.out.2
            unfold numR at h2
            rw [if_neg (by rw [bitsOf_len]; exact hbits)] at h2
            obtain ⟨hx0, he2⟩ := h2
            rw [if_pos rfl] at he2
            have he4 : e2 = 4 := he2
            subst he4
            have HBd := Lib.hid (show symR (bitsOf bs) zs p = .bad false from symR_none (fun k hk hk2 => HNo.out k hk (by rw [List.length_drop, bitsOf_len] at hk2; omega)))
            clear he2 TK hx0
            obtain ⟨hs1, hhas⟩ : ∃ hs1, Maps.has D (.int .i64 (2 * v + (x : Int))) = hs1 := ⟨_, rfl⟩
            cases hs1
            all_goals
              go_wp2_with (first
                | (at_lookup; refine wpList_lookup_own_ok_int _ rfl _ _ 115 rfl 3 3 .i64 law_int Tryd.underlying115 Tryd.underlying3 (zero_int _) b mm D rfl MP.out _ _ rfl (keyOf_int_mk Tryd.underlying3 HWF.out) ?_; intro c hat hwc; have HAt := Lib.hid hat; clear hat hwc)
                | fail)
              go_roundg (gk - 1)
              case measure => omega
              case rel => exact ⟨n + 1, 2 * v + x, 4, p2, by omega, by go_num, rfl, by omega, by omega, H2.out, S2.out, K2.out, T2.out, .inr ⟨rfl, HBd.out⟩⟩
        · obtain rfl : n = 15 := by omega
          have HBd := Lib.hid (show symR (bitsOf bs) zs p = .bad false from symR_none (fun k hk _ => by
            rcases Nat.lt_or_ge 15 k with h | h
            · cases hh : hit zs ((bitsOf bs).drop p) k with
              | false => rfl
              | true =>
                have h1 := hit_max (by omega) hh
                have h2 := maxL_hi hok zs.length
                rw [List.take_length] at h2
                omega
            · exact HNo.out k hk h))
          go_wp2_with (go_at_call 38; refine (rfail_any base s bs (p + 15) out most 0 4 wr H.out).mono ?_; rintro ev w2 ⟨rfl, h2', s2, k2⟩; have H2 := Lib.hid h2'; have S2 := Lib.hid (S.out.trans s2); clear h2' s2 k2)
          go_ret
          exact ⟨0, p + 15, 4, rfl, .inl rfl, H2.out, S2.out, .inl ⟨rfl, by rw [HBd.out]; exact ⟨rfl, rfl⟩⟩⟩
      · have HBd := Lib.hid hbad
        clear hbad CS
        by_cases hlt : n < 15
        · have hltI : (n : Int) < 15 := by omega
          go_wp2_with (go_at_call 38; refine (rfail_any base s bs pp out most 4 4 wr H.out).mono ?_; rintro ev w2 ⟨rfl, h2', s2, k2⟩; have H2 := Lib.hid h2'; have S2 := Lib.hid (S.out.trans s2); clear h2' s2 k2)
          go_ret
          exact ⟨0, pp, 4, rfl, .inl rfl, H2.out, S2.out, .inl ⟨rfl, by rw [HBd.out]; exact ⟨rfl, rfl⟩⟩⟩
        · obtain rfl : n = 15 := by omega
          go_wp2_with (go_at_call 38; refine (rfail_any base s bs pp out most 4 4 wr H.out).mono ?_; rintro ev w2 ⟨rfl, h2', s2, k2⟩; have H2 := Lib.hid h2'; have S2 := Lib.hid (S.out.trans s2); clear h2' s2 k2)
          go_ret
          exact ⟨0, pp, 4, rfl, .inl rfl, H2.out, S2.out, .inl ⟨rfl, by rw [HBd.out]; exact ⟨rfl, rfl⟩⟩⟩
  · have d1 : (e == 0) = false := by simpa using he
    have H1 := Lib.hid (H.out.below L1.out)
    have S1 := Lib.hid (StStep.of_below (s := s) (r := s) L1.out h3)
    have c4 := H1.out.c4
    go_enter Tryd.func62, Tryd.ntmps62
    go_wp2
    go_loopg [5, 6] 0 (RSymE (w.alloc (.cells #[.map (some b)] 117)))
    case atStart => exact ⟨rfl, rfl, rfl⟩
    case round =>
      obtain ⟨rfl, rfl, rfl⟩ := hrel
      go_wp2_with (go_at_call 38; refine (rfail_any base s bs p out most e 4 _ H1.out).mono ?_; rintro ev w2 ⟨rfl, h2', s2, k2⟩; have H2 := Lib.hid h2'; have S2 := Lib.hid (S1.out.trans s2); clear h2' s2 k2)
      go_ret
      rw [if_neg he] at H2
      exact ⟨0, p, e, rfl, .inl rfl, H2.out, S2.out, .inr ⟨he, rfl, rfl⟩⟩
end Go.Proofs.YtlhaehefhhcgaaaDoor
namespace Go.Proofs.YtlhaehefhhcgaaaDoor
open Go.RowKit
set_option linter.unusedVariables false

theorem rtook_next {e1 : Int} {T1 : Res Nat} {v p2 : Nat} {e2 : Int} {T : Res (List Int)} {G : Nat → Nat → Res (List Int)} (hb : ∀ b, T1 = .bad b → b = false) (h1 : (e1 = 4 ∧ T = .bad false) ∨ (e1 = 0 ∧ T = T1.bind G)) (h : RTook e1 T1 v p2 e2) :
    (e2 = 4 ∧ T = .bad false) ∨ (e2 = 0 ∧ T = G v p2) := by
  rcases h with ⟨rfl, h⟩ | ⟨hne, _, rfl⟩
  · exact took_next hb h1 h
  · rcases h1 with h1 | h1
    · exact .inl h1
    · exact absurd h1.1 hne
def RVoid (base s : Nat) (bs : List Int) (most : Nat) (T : Res (List Int)) (w : World) (ev : Ending) (w' : World) : Prop :=
  ∃ p' out' e', ev = .returned (.tuple #[]) ∧ RefOk w' base s bs p' out' (most : Int) e' ∧ StStep w w' base s s ∧ out'.length ≤ most ∧ Agree T out' p' e'
def RAl (base s : Nat) (bs out : List Int) (p : Nat) (most e : Int) (w : World) (k : Nat) (wr : World) : Prop :=
  ∃ q, p ≤ q ∧ q + k = alignR p ∧ RefOk wr base s bs q out most e ∧ StStep w wr base s s
def RDead (base s : Nat) (bs out : List Int) (p : Nat) (most e : Int) (w : World) (k : Nat) (iv : Value) (wr : World) : Prop :=
  iv = .int .i64 0 ∧ RefOk wr base s bs p out most e ∧ StStep w wr base s s
def RSto (base s : Nat) (bs out : List Int) (most p n : Nat) (w : World) (k : Nat) (iv : Value) (wr : World) : Prop :=
  ∃ i : Nat, i + k = n ∧ iv = .int .i64 i ∧ RefOk wr base s bs (p + 8 * i) (out ++ bytesR (bitsOf bs) p i) (most : Int) 0 ∧ StStep w wr base s s
theorem RefOk.parts {w : World} {base s p : Nat} {bs out : List Int} {most e : Int} (h : RefOk w base s bs p out most e) : ∃ A c A2 c2, Blk w s 64 #[.slice A (8 * bs.length) c, .int .i64 p, .slice A2 out.length c2, .int .i64 most, .int .i64 e] ∧
    w.ownsRow 0 5 1 (.slice A2 out.length c2) out.length (out.map (Value.int .u8)) ∧ (∀ j, (Value.slice A2 out.length c2).ownBlock = some j → base ≤ j) := by
  obtain ⟨h1, h2, h3, h4, A, c, v, h5, h6, h7, h8, h9⟩ := h
  obtain ⟨A2, c2, rfl, _⟩ := own_slice h8
  exact ⟨A, c, A2, c2, h5, h8, h9⟩

set_option maxHeartbeats 1600000 in
set_option maxRecDepth 100000 in
theorem rstored_any (base s : Nat) (bs : List Int) (p : Nat) (out : List Int) (most : Nat) (w : World) (h : RefOk w base s bs p out (most : Int) 0) (hB : Bytes bs) (hl : bs.length ≤ 1000000000) (hm : most ≤ 65536) (ho : out.length ≤ most) :
    Calls Tryd.prog 35 #[.pointer (some ⟨s, 0, none⟩)] w (RVoid base s bs most (storedR (bitsOf bs) most out p) w) := by
  have H := Lib.hid h
  have HBy := Lib.hid hB
  have h3 := h.2.2.1
  have hp := h.1
  have hal : alignR p ≤ 8 * bs.length := by unfold alignR; omega
  have hal2 : p ≤ alignR p := by unfold alignR; omega
  have hal8 : ∀ q, p ≤ q → q ≤ alignR p → q % 8 = 0 → q = alignR p := by unfold alignR; omega
  have HA8 := Lib.hid hal8
  clear h hB hal8
  obtain ⟨T, hT⟩ : ∃ T, T = storedR (bitsOf bs) most out p := ⟨_, rfl⟩
  rw [← hT]
  have HT := Lib.hid (show T = (numR (bitsOf bs) (alignR p) 16).bind fun n p => (numR (bitsOf bs) p 16).bind fun m p =>
    if n + m ≠ 65535 ∨ (bitsOf bs).length < p + 8 * n then .bad false else if most < out.length + n then .bad true else .ok (out ++ bytesR (bitsOf bs) p n) (p + 8 * n) from hT)
  clear hT
  go_enter Tryd.func35, Tryd.ntmps35
  go_wp2
  go_loopg [] (alignR p - p) (RAl base s bs out p (most : Int) 0 w)
  case atStart => exact ⟨p, Nat.le_refl _, by omega, H.out, StStep.refl _ _ _ _⟩
  case round =>
    clear H
    obtain ⟨q, hq1, hq2, hs, hst⟩ := hrel
    have H := Lib.hid hs
    have S := Lib.hid hst
    have hbs := hs.2.2.1
    have hq3 := hs.1
    obtain ⟨A0, c0, A1, c1, b0, o0, l0⟩ := hs.parts
    have g1 := b0.cell (i := 1) (v := .int .i64 (q : Int)) rfl
    have f1 := b0.free 1
    have B0 := Lib.hid b0
    have O0 := Lib.hid o0
    have LO := Lib.hid l0
    have hBo := hs.2.2.2.1
    clear hs hst b0 o0 l0
    by_cases hq8 : q % 8 = 0
    · have dq : ((q : Int) % 8 != 0) = false := by simp; omega
      obtain rfl := HA8.out q hq1 (by omega) hq8
      clear B0 O0 LO f1 HA8
      go_wp2_with fail
      refine (rnumber_any base s bs (alignR p) out (most : Int) 0 16 wr H.out HBy.out hl (by omega)).mono ?_
      rintro ev w2 ⟨n, p2, e2, rfl, hn2, hs2, st2, tk2, _⟩
      have H2 := Lib.hid hs2
      have S2 := Lib.hid (S.out.trans st2)
      have T2 := Lib.hid (rtook_next (fun b => numR_bad) (.inr ⟨rfl, HT.out⟩) tk2)
      clear hs2 st2 tk2 H S HT
      go_wp2_with fail
      refine (rnumber_any base s bs p2 out (most : Int) e2 16 w2 H2.out HBy.out hl (by omega)).mono ?_
      rintro ev w3 ⟨m, p3, e3, rfl, hn3, hs3, st3, tk3, _⟩
      have H3 := Lib.hid hs3
      have S3 := Lib.hid (S2.out.trans st3)
      have T3 := Lib.hid (rtook_next (fun b => numR_bad) T2.out tk3)
      have h33 := hs3.2.2.1
      have hp3 := hs3.1
      clear hs3 st3 tk3 H2 S2 T2
      have hn65 : n < 65536 := hn2
      have hm65 : m < 65536 := hn3
      clear hn2 hn3
      rw [bitsOf_len] at T3
      by_cases hsum : n + m = 65535
      · have dsum : ((n : Int) + m != 65535) = false := by simp; omega
        rcases T3.out with ⟨rfl, hT3⟩ | ⟨rfl, hT3⟩
        · have HTb := Lib.hid hT3
          clear hT3 T3
          have H7 := H3
          have S7 := S3
          clear H3 S3
          obtain ⟨A7, c7, A27, c27, b7, _, _⟩ := H7.out.parts
          have f0 := b7.cell (i := 0) (v := .slice A7 (8 * bs.length) c7) rfl
          have f1 := b7.cell (i := 1) (v := .int .i64 (p3 : Int)) rfl
          have f4 := b7.cell (i := 4) (v := .int .i64 4) rfl
          have hb7 := H7.out.2.2.1
          clear b7
          go_wp2
          refine wp_region_qs (fun _ w' => w'.cell? ⟨s, 0, none⟩ = some (.slice A7 (8 * bs.length) c7) ∧ w'.cell? ⟨s, 1, none⟩ = some (.int .i64 (p3 : Int)) ∧ w'.cell? ⟨s, 4, none⟩ = some (.int .i64 4)) [(0, some 0), (1, some 0), (2, some 0), (3, some 0), (4, some 0), (5, some 0), (6, some 0), (7, some 0), (8, some 0), (9, some 0), (10, some 0), (11, some 0), (12, some 0), (13, some 0), (14, some 0), (15, some 0), (16, some 0), (17, some 0), (18, some 0), (19, some 0)] (by kernel_rfl) (by kernel_rfl) (by kernel_rfl) (by kernel_rfl) (by kernel_rfl) (fun _ _ _ _ _ h => h) ⟨f0, f1, f4⟩ ?_
          simp only [List.map_cons, List.map_nil, List.getD_cons_succ, List.getD_cons_zero]
          (repeat (first | (refine qs_now (v := ?_) (by rfl) ?_ ?_; rotate_left 1; (· (intro w' hS; go_simp; (try (simp only [↓IntWalk.iteOmega]; go_simp)); (try simp (disch := omega) only [IntWalk.i64_in]); try with_reducible rfl)); simp only [Act.put, List.setIfInBounds_toArray, List.set_cons_zero, List.set_cons_succ]) | (refine qs_run (v := ?_) (by rfl) ?_ ?_; rotate_left 1; (· (intro j w' hS; go_simp; (try (simp only [↓IntWalk.iteOmega]; go_simp)); (try simp (disch := omega) only [IntWalk.i64_in]); try with_reducible rfl)); simp only [Act.put, List.setIfInBounds_toArray, List.set_cons_zero, List.set_cons_succ]) | (refine qs_skip (by rfl) ?_; simp only [Act.put, List.setIfInBounds_toArray, List.set_cons_zero, List.set_cons_succ])))
          refine qs_nil ?_
          have hdr7 := (Below.refl w3.heap.size w3).drew
          have H8 := Lib.hid (H7.out.below hdr7)
          have S8 := Lib.hid (S7.out.trans (StStep.of_below hdr7 hb7))
          clear H7 S7 hdr7 f0 f1 f4
          obtain ⟨A8, c8, A28, c28, b8, _, _⟩ := H8.out.parts
          have g2 := b8.cell (i := 2) (v := .slice A28 out.length c28) rfl
          have g3 := b8.cell (i := 3) (v := .int .i64 (most : Int)) rfl
          have g4 := b8.cell (i := 4) (v := .int .i64 4) rfl
          have hb8 := H8.out.2.2.1
          clear b8
          go_wp2
          refine wp_region_qs (fun _ w' => w'.cell? ⟨s, 2, none⟩ = some (.slice A28 out.length c28) ∧ w'.cell? ⟨s, 3, none⟩ = some (.int .i64 (most : Int)) ∧ w'.cell? ⟨s, 4, none⟩ = some (.int .i64 4)) [(0, some 0), (1, some 0), (2, some 0), (3, some 0), (4, some 0), (5, some 0), (6, some 0), (7, some 0), (8, some 0), (9, some 0), (10, some 0), (11, some 0), (12, some 0), (13, some 0), (14, some 0), (15, some 0), (16, some 0), (17, some 0), (18, some 0)] (by kernel_rfl) (by kernel_rfl) (by kernel_rfl) (by kernel_rfl) (by kernel_rfl) (fun _ _ _ _ _ h => h) ⟨g2, g3, g4⟩ ?_
          simp only [List.map_cons, List.map_nil, List.getD_cons_succ, List.getD_cons_zero]
          (repeat (first | (refine qs_now (v := ?_) (by rfl) ?_ ?_; rotate_left 1; (· (intro w' hS; go_simp; (try (simp only [↓IntWalk.iteOmega]; go_simp)); (try simp (disch := omega) only [IntWalk.i64_in]); try with_reducible rfl)); simp only [Act.put, List.setIfInBounds_toArray, List.set_cons_zero, List.set_cons_succ]) | (refine qs_run (v := ?_) (by rfl) ?_ ?_; rotate_left 1; (· (intro j w' hS; go_simp; (try (simp only [↓IntWalk.iteOmega]; go_simp)); (try simp (disch := omega) only [IntWalk.i64_in]); try with_reducible rfl)); simp only [Act.put, List.setIfInBounds_toArray, List.set_cons_zero, List.set_cons_succ]) | (refine qs_skip (by rfl) ?_; simp only [Act.put, List.setIfInBounds_toArray, List.set_cons_zero, List.set_cons_succ])))
          refine qs_nil ?_
          have hdr8 := (Below.refl w3.drew.heap.size w3.drew).drew
          have H9 := Lib.hid (H8.out.below hdr8)
          have S9 := Lib.hid (S8.out.trans (StStep.of_below hdr8 hb8))
          clear H8 S8 hdr8 g2 g3 g4
          go_wp2
          go_loopg [4] 0 (RDead base s bs out p3 (most : Int) 4 w)
          case atStart => exact ⟨rfl, H9.out, S9.out⟩
          case round =>
            clear H9 S9
            obtain ⟨rfl, hs9, st9⟩ := hrel
            have H9 := Lib.hid hs9
            have S9 := Lib.hid st9
            have c49 := hs9.c4
            clear hs9 st9
            by_cases hn0 : 0 < n
            · have hn0I : (0 : Int) < n := by omega
              go_wp2
              go_end0
              exact ⟨p3, out, 4, rfl, H9.out, S9.out, ho, by rw [HTb.out]; rfl⟩
            · have hn0I : ¬ (0 : Int) < n := by omega
              go_wp2
              go_end0
              exact ⟨p3, out, 4, rfl, H9.out, S9.out, ho, by rw [HTb.out]; rfl⟩
        · have HT3 := Lib.hid hT3
          clear hT3 T3
          obtain ⟨A7, c7, A27, c27, b7, o7, l7⟩ := H3.out.parts
          have f0 := b7.cell (i := 0) (v := .slice A7 (8 * bs.length) c7) rfl
          have f1 := b7.cell (i := 1) (v := .int .i64 (p3 : Int)) rfl
          have f4 := b7.cell (i := 4) (v := .int .i64 0) rfl
          have g2 : w3.drew.cell? ⟨s, 2, none⟩ = some (.slice A27 out.length c27) := b7.cell (i := 2) (v := .slice A27 out.length c27) rfl
          have g3 : w3.drew.cell? ⟨s, 3, none⟩ = some (.int .i64 (most : Int)) := b7.cell (i := 3) (v := .int .i64 (most : Int)) rfl
          have g4 : w3.drew.cell? ⟨s, 4, none⟩ = some (.int .i64 0) := f4
          clear b7 o7 l7
          have hdr7 := (Below.refl w3.heap.size w3).drew
          have H4 := Lib.hid (H3.out.below hdr7)
          have S4 := Lib.hid (S3.out.trans (StStep.of_below hdr7 h33))
          clear H3 S3 hdr7
          by_cases hleft : 8 * bs.length < p3 + 8 * n
          · have dleft : decide (8 * (bs.length : Int) < (p3 : Int) + 8 * n) = true := by simp; omega
            have HTb := Lib.hid (show T = .bad false by rw [HT3.out, if_pos (.inr hleft)])
            clear HT3
            go_wp2
            refine wp_region_qs (fun _ w' => w'.cell? ⟨s, 0, none⟩ = some (.slice A7 (8 * bs.length) c7) ∧ w'.cell? ⟨s, 1, none⟩ = some (.int .i64 (p3 : Int)) ∧ w'.cell? ⟨s, 4, none⟩ = some (.int .i64 0)) [(0, some 0), (1, some 0), (2, some 0), (3, some 0), (4, some 0), (5, some 0), (6, some 0), (7, some 0), (8, some 0), (9, some 0), (10, some 0), (11, some 0), (12, some 0), (13, some 0), (14, some 0), (15, some 0), (16, some 0), (17, some 0), (18, some 0), (19, some 0)] (by kernel_rfl) (by kernel_rfl) (by kernel_rfl) (by kernel_rfl) (by kernel_rfl) (fun _ _ _ _ _ h => h) ⟨f0, f1, f4⟩ ?_
            simp only [List.map_cons, List.map_nil, List.getD_cons_succ, List.getD_cons_zero]
            (repeat (first | (refine qs_now (v := ?_) (by rfl) ?_ ?_; rotate_left 1; (· (intro w' hS; go_simp; (try (simp only [↓IntWalk.iteOmega]; go_simp)); (try simp (disch := omega) only [IntWalk.i64_in]); try with_reducible rfl)); simp only [Act.put, List.setIfInBounds_toArray, List.set_cons_zero, List.set_cons_succ]) | (refine qs_run (v := ?_) (by rfl) ?_ ?_; rotate_left 1; (· (intro j w' hS; go_simp; (try (simp only [↓IntWalk.iteOmega]; go_simp)); (try simp (disch := omega) only [IntWalk.i64_in]); try with_reducible rfl)); simp only [Act.put, List.setIfInBounds_toArray, List.set_cons_zero, List.set_cons_succ]) | (refine qs_skip (by rfl) ?_; simp only [Act.put, List.setIfInBounds_toArray, List.set_cons_zero, List.set_cons_succ])))
            refine qs_nil ?_
            go_wp2_with fail
            refine (rfail_any base s bs p3 out (most : Int) 0 4 w3.drew H4.out).mono ?_
            rintro ev w5 ⟨rfl, hs5, st5, _⟩
            rw [if_pos rfl] at hs5
            have H8 := Lib.hid hs5
            have S8 := Lib.hid (S4.out.trans st5)
            clear hs5 st5 H4 S4 f0 f1 f4 g2 g3 g4
            obtain ⟨A8, c8, A28, c28, b8, _, _⟩ := H8.out.parts
            have g2 := b8.cell (i := 2) (v := .slice A28 out.length c28) rfl
            have g3 := b8.cell (i := 3) (v := .int .i64 (most : Int)) rfl
            have g4 := b8.cell (i := 4) (v := .int .i64 4) rfl
            have hb8 := H8.out.2.2.1
            clear b8
            go_wp2
            refine wp_region_qs (fun _ w' => w'.cell? ⟨s, 2, none⟩ = some (.slice A28 out.length c28) ∧ w'.cell? ⟨s, 3, none⟩ = some (.int .i64 (most : Int)) ∧ w'.cell? ⟨s, 4, none⟩ = some (.int .i64 4)) [(0, some 0), (1, some 0), (2, some 0), (3, some 0), (4, some 0), (5, some 0), (6, some 0), (7, some 0), (8, some 0), (9, some 0), (10, some 0), (11, some 0), (12, some 0), (13, some 0), (14, some 0), (15, some 0), (16, some 0), (17, some 0), (18, some 0)] (by kernel_rfl) (by kernel_rfl) (by kernel_rfl) (by kernel_rfl) (by kernel_rfl) (fun _ _ _ _ _ h => h) ⟨g2, g3, g4⟩ ?_
            simp only [List.map_cons, List.map_nil, List.getD_cons_succ, List.getD_cons_zero]
            (repeat (first | (refine qs_now (v := ?_) (by rfl) ?_ ?_; rotate_left 1; (· (intro w' hS; go_simp; (try (simp only [↓IntWalk.iteOmega]; go_simp)); (try simp (disch := omega) only [IntWalk.i64_in]); try with_reducible rfl)); simp only [Act.put, List.setIfInBounds_toArray, List.set_cons_zero, List.set_cons_succ]) | (refine qs_run (v := ?_) (by rfl) ?_ ?_; rotate_left 1; (· (intro j w' hS; go_simp; (try (simp only [↓IntWalk.iteOmega]; go_simp)); (try simp (disch := omega) only [IntWalk.i64_in]); try with_reducible rfl)); simp only [Act.put, List.setIfInBounds_toArray, List.set_cons_zero, List.set_cons_succ]) | (refine qs_skip (by rfl) ?_; simp only [Act.put, List.setIfInBounds_toArray, List.set_cons_zero, List.set_cons_succ])))
            refine qs_nil ?_
            have hdr8 := (Below.refl w5.heap.size w5).drew
            have H9 := Lib.hid (H8.out.below hdr8)
            have S9 := Lib.hid (S8.out.trans (StStep.of_below hdr8 hb8))
            clear H8 S8 hdr8 g2 g3 g4
            go_wp2
            go_loopg [4] 0 (RDead base s bs out p3 (most : Int) 4 w)
            case atStart => exact ⟨rfl, H9.out, S9.out⟩
            case round =>
              clear H9 S9
              obtain ⟨rfl, hs9, st9⟩ := hrel
              have H9 := Lib.hid hs9
              have S9 := Lib.hid st9
              have c49 := hs9.c4
              clear hs9 st9
              by_cases hn0 : 0 < n
              · have hn0I : (0 : Int) < n := by omega
                go_wp2
                go_end0
                exact ⟨p3, out, 4, rfl, H9.out, S9.out, ho, by rw [HTb.out]; rfl⟩
              · have hn0I : ¬ (0 : Int) < n := by omega
                go_wp2
                go_end0
                exact ⟨p3, out, 4, rfl, H9.out, S9.out, ho, by rw [HTb.out]; rfl⟩
          · have dleft : decide (8 * (bs.length : Int) < (p3 : Int) + 8 * n) = false := by simp; omega
            rw [if_neg (by omega)] at HT3
            go_wp2
            refine wp_region_qs (fun _ w' => w'.cell? ⟨s, 0, none⟩ = some (.slice A7 (8 * bs.length) c7) ∧ w'.cell? ⟨s, 1, none⟩ = some (.int .i64 (p3 : Int)) ∧ w'.cell? ⟨s, 4, none⟩ = some (.int .i64 0)) [(0, some 0), (1, some 0), (2, some 0), (3, some 0), (4, some 0), (5, some 0), (6, some 0), (7, some 0), (8, some 0), (9, some 0), (10, some 0), (11, some 0), (12, some 0), (13, some 0), (14, some 0), (15, some 0), (16, some 0), (17, some 0), (18, some 0), (19, some 0)] (by kernel_rfl) (by kernel_rfl) (by kernel_rfl) (by kernel_rfl) (by kernel_rfl) (fun _ _ _ _ _ h => h) ⟨f0, f1, f4⟩ ?_
            simp only [List.map_cons, List.map_nil, List.getD_cons_succ, List.getD_cons_zero]
            (repeat (first | (refine qs_now (v := ?_) (by rfl) ?_ ?_; rotate_left 1; (· (intro w' hS; go_simp; (try (simp only [↓IntWalk.iteOmega]; go_simp)); (try simp (disch := omega) only [IntWalk.i64_in]); try with_reducible rfl)); simp only [Act.put, List.setIfInBounds_toArray, List.set_cons_zero, List.set_cons_succ]) | (refine qs_run (v := ?_) (by rfl) ?_ ?_; rotate_left 1; (· (intro j w' hS; go_simp; (try (simp only [↓IntWalk.iteOmega]; go_simp)); (try simp (disch := omega) only [IntWalk.i64_in]); try with_reducible rfl)); simp only [Act.put, List.setIfInBounds_toArray, List.set_cons_zero, List.set_cons_succ]) | (refine qs_skip (by rfl) ?_; simp only [Act.put, List.setIfInBounds_toArray, List.set_cons_zero, List.set_cons_succ])))
            refine qs_nil ?_
            clear f0 f1 f4
            have hdr8 := (Below.refl w3.drew.heap.size w3.drew).drew
            have H5 := Lib.hid (H4.out.below hdr8)
            have S5 := Lib.hid (S4.out.trans (StStep.of_below hdr8 h33))
            clear H4 S4 hdr8
            by_cases hlong : most < out.length + n
            · have dlong : decide ((most : Int) < (out.length : Int) + n) = true := by simp; omega
              have HTb := Lib.hid (show T = .bad true by rw [HT3.out, if_pos hlong])
              clear HT3
              go_wp2
              refine wp_region_qs (fun _ w' => w'.cell? ⟨s, 2, none⟩ = some (.slice A27 out.length c27) ∧ w'.cell? ⟨s, 3, none⟩ = some (.int .i64 (most : Int)) ∧ w'.cell? ⟨s, 4, none⟩ = some (.int .i64 0)) [(0, some 0), (1, some 0), (2, some 0), (3, some 0), (4, some 0), (5, some 0), (6, some 0), (7, some 0), (8, some 0), (9, some 0), (10, some 0), (11, some 0), (12, some 0), (13, some 0), (14, some 0), (15, some 0), (16, some 0), (17, some 0), (18, some 0)] (by kernel_rfl) (by kernel_rfl) (by kernel_rfl) (by kernel_rfl) (by kernel_rfl) (fun _ _ _ _ _ h => h) ⟨g2, g3, g4⟩ ?_
              simp only [List.map_cons, List.map_nil, List.getD_cons_succ, List.getD_cons_zero]
              (repeat (first | (refine qs_now (v := ?_) (by rfl) ?_ ?_; rotate_left 1; (· (intro w' hS; go_simp; (try (simp only [↓IntWalk.iteOmega]; go_simp)); (try simp (disch := omega) only [IntWalk.i64_in]); try with_reducible rfl)); simp only [Act.put, List.setIfInBounds_toArray, List.set_cons_zero, List.set_cons_succ]) | (refine qs_run (v := ?_) (by rfl) ?_ ?_; rotate_left 1; (· (intro j w' hS; go_simp; (try (simp only [↓IntWalk.iteOmega]; go_simp)); (try simp (disch := omega) only [IntWalk.i64_in]); try with_reducible rfl)); simp only [Act.put, List.setIfInBounds_toArray, List.set_cons_zero, List.set_cons_succ]) | (refine qs_skip (by rfl) ?_; simp only [Act.put, List.setIfInBounds_toArray, List.set_cons_zero, List.set_cons_succ])))
              refine qs_nil ?_
              go_wp2_with fail
              refine (rfail_any base s bs p3 out (most : Int) 0 3 w3.drew.drew H5.out).mono ?_
              rintro ev w5 ⟨rfl, hs5, st5, _⟩
              rw [if_pos rfl] at hs5
              have H9 := Lib.hid hs5
              have S9 := Lib.hid (S5.out.trans st5)
              clear hs5 st5 H5 S5 g2 g3 g4
              go_wp2
              go_loopg [4] 0 (RDead base s bs out p3 (most : Int) 3 w)
              case atStart => exact ⟨rfl, H9.out, S9.out⟩
              case round =>
                clear H9 S9
                obtain ⟨rfl, hs9, st9⟩ := hrel
                have H9 := Lib.hid hs9
                have S9 := Lib.hid st9
                have c49 := hs9.c4
                clear hs9 st9
                by_cases hn0 : 0 < n
                · have hn0I : (0 : Int) < n := by omega
                  go_wp2
                  go_end0
                  exact ⟨p3, out, 3, rfl, H9.out, S9.out, ho, by rw [HTb.out]; rfl⟩
                · have hn0I : ¬ (0 : Int) < n := by omega
                  go_wp2
                  go_end0
                  exact ⟨p3, out, 3, rfl, H9.out, S9.out, ho, by rw [HTb.out]; rfl⟩
            · have dlong : decide ((most : Int) < (out.length : Int) + n) = false := by simp; omega
              rw [if_neg hlong] at HT3
              go_wp2
              refine wp_region_qs (fun _ w' => w'.cell? ⟨s, 2, none⟩ = some (.slice A27 out.length c27) ∧ w'.cell? ⟨s, 3, none⟩ = some (.int .i64 (most : Int)) ∧ w'.cell? ⟨s, 4, none⟩ = some (.int .i64 0)) [(0, some 0), (1, some 0), (2, some 0), (3, some 0), (4, some 0), (5, some 0), (6, some 0), (7, some 0), (8, some 0), (9, some 0), (10, some 0), (11, some 0), (12, some 0), (13, some 0), (14, some 0), (15, some 0), (16, some 0), (17, some 0), (18, some 0)] (by kernel_rfl) (by kernel_rfl) (by kernel_rfl) (by kernel_rfl) (by kernel_rfl) (fun _ _ _ _ _ h => h) ⟨g2, g3, g4⟩ ?_
              simp only [List.map_cons, List.map_nil, List.getD_cons_succ, List.getD_cons_zero]
              (repeat (first | (refine qs_now (v := ?_) (by rfl) ?_ ?_; rotate_left 1; (· (intro w' hS; go_simp; (try (simp only [↓IntWalk.iteOmega]; go_simp)); (try simp (disch := omega) only [IntWalk.i64_in]); try with_reducible rfl)); simp only [Act.put, List.setIfInBounds_toArray, List.set_cons_zero, List.set_cons_succ]) | (refine qs_run (v := ?_) (by rfl) ?_ ?_; rotate_left 1; (· (intro j w' hS; go_simp; (try (simp only [↓IntWalk.iteOmega]; go_simp)); (try simp (disch := omega) only [IntWalk.i64_in]); try with_reducible rfl)); simp only [Act.put, List.setIfInBounds_toArray, List.set_cons_zero, List.set_cons_succ]) | (refine qs_skip (by rfl) ?_; simp only [Act.put, List.setIfInBounds_toArray, List.set_cons_zero, List.set_cons_succ])))
              refine qs_nil ?_
              clear g2 g3 g4
              go_wp2
              go_loopg [4] n (RSto base s bs out most p3 n w)
              case atStart => exact ⟨0, by omega, rfl, by simpa [bytesR] using H5.out, S5.out⟩
              case round =>
                clear H5 S5
                obtain ⟨i, hi, rfl, hs6, st6⟩ := hrel
                have H6 := Lib.hid hs6
                have S6 := Lib.hid st6
                have g4 := hs6.c4
                have h36 := hs6.2.2.1
                clear hs6 st6
                by_cases hin : i < n
                · have hinI : (i : Int) < n := by omega
                  obtain ⟨Ax, cx, Ay, cy, bx, ox, lx⟩ := H6.out.parts
                  have hol : (out ++ bytesR (bitsOf bs) p3 i).length = out.length + i := by rw [List.length_append, bytesR_len]
                  have HBs := Lib.hid (bytesR_succ (bitsOf bs) p3 i)
                  generalize ho1 : out ++ bytesR (bitsOf bs) p3 i = o1 at *
                  have HO1 := Lib.hid ho1
                  have hlo : o1.length ≤ 65536 := by omega
                  have x2 := bx.cell (i := 2) (v := .slice Ay o1.length cy) rfl
                  clear ho1 hol bx ox lx
                  go_wp2
                  refine wp_region_qs (fun j w' => j ≤ 2 → w'.cell? ⟨s, 2, none⟩ = some (.slice Ay o1.length cy)) [(0, some 3), (1, some 3), (2, some 3), (3, some 3), (4, some 2), (5, some 2), (6, none), (7, some 2), (8, none), (9, none), (10, some 4), (11, some 3), (12, none)] (by kernel_rfl) (by kernel_rfl) (by kernel_rfl) (by kernel_rfl) (by kernel_rfl) (fun _ _ _ _ _ h => h) (fun _ => x2) ?_
                  simp only [List.map_cons, List.map_nil, List.getD_cons_succ, List.getD_cons_zero]
                  (repeat (first | (refine qs_now (v := ?_) (by rfl) ?_ ?_; rotate_left 1; (· (intro w' hS; go_simp; (try (simp only [↓IntWalk.iteOmega]; go_simp)); (try simp (disch := omega) only [IntWalk.i64_in]); try with_reducible rfl)); simp only [Act.put, List.setIfInBounds_toArray, List.set_cons_zero, List.set_cons_succ]) | (refine qs_run (v := ?_) (by rfl) ?_ ?_; rotate_left 1; (· (intro j w' hS; go_simp; (try (simp only [↓IntWalk.iteOmega]; go_simp)); (try simp (disch := omega) only [IntWalk.i64_in]); try with_reducible rfl)); simp only [Act.put, List.setIfInBounds_toArray, List.set_cons_zero, List.set_cons_succ]) | (refine qs_mid (v := ?_) (by rfl) ?_ ?_; rotate_left 1; (· (intro j w' hj1 hj2 hS; go_simp; (try (simp only [↓IntWalk.iteOmega]; go_simp)); (try simp (disch := omega) only [IntWalk.i64_in]); try with_reducible rfl)); simp only [Act.put, List.setIfInBounds_toArray, List.set_cons_zero, List.set_cons_succ]) | (refine qs_skip (by rfl) ?_; simp only [Act.put, List.setIfInBounds_toArray, List.set_cons_zero, List.set_cons_succ])))
                  refine qs_act ?_
                  go_wp2_with fail
                  have hdr6 := (Below.refl wr.heap.size wr).drew
                  refine (rnumber_any base s bs (p3 + 8 * i) o1 (most : Int) 0 8 wr.drew (H6.out.below hdr6) HBy.out hl (by omega)).mono ?_
                  rintro ev w7 ⟨x, p7, e7, rfl, hx, hs7, st7, tk7, k7⟩
                  have hnum := num_yes (bt := bitsOf bs) (p := p3 + 8 * i) (n := 8) (by rw [bitsOf_len]; omega)
                  have tk := tk7.resolve_right (fun h => h.1 rfl)
                  rw [hnum] at tk
                  obtain ⟨_, hx7, hp7, he7⟩ := tk
                  rw [← hx7] at HBs
                  subst hp7
                  subst he7
                  have c7' : w7.cell? ⟨s, 2, none⟩ = some (.slice Ay o1.length cy) := k7.trans x2
                  have H7 := Lib.hid hs7
                  have S7 := Lib.hid (S6.out.trans ((StStep.of_below hdr6 h36).trans st7))
                  clear hnum hx7 hs7 st7 k7 H6 S6 tk7 hdr6
                  have hx256 : x < 256 := hx
                  have hxI : (x : Int) < 256 := by omega
                  go_wp2
                  refine ⟨fun _ => c7', ?_⟩
                  obtain ⟨Aa, ca, Ab, cb, ba, oa, la⟩ := H7.out.parts
                  obtain ⟨rfl, rfl⟩ : Ab = Ay ∧ cb = cy := by
                    have := ba.cell (i := 2) rfl
                    rw [c7'] at this
                    injection this with this
                    injection this with a b c
                    exact ⟨a.symm, c.symm⟩
                  have BA := Lib.hid ba
                  have OA := Lib.hid oa
                  clear ba oa la
                  (repeat (first | (refine qs_now (v := ?_) (by rfl) ?_ ?_; rotate_left 1; (· (intro w' hS; go_simp; (try (simp only [↓IntWalk.iteOmega]; go_simp)); (try simp (disch := omega) only [IntWalk.i64_in]); try with_reducible rfl)); simp only [Act.put, List.setIfInBounds_toArray, List.set_cons_zero, List.set_cons_succ]) | (refine qs_run (v := ?_) (by rfl) ?_ ?_; rotate_left 1; (· (intro j w' hS; go_simp; (try (simp only [↓IntWalk.iteOmega]; go_simp)); (try simp (disch := omega) only [IntWalk.i64_in]); try with_reducible rfl)); simp only [Act.put, List.setIfInBounds_toArray, List.set_cons_zero, List.set_cons_succ]) | (refine qs_mid (v := ?_) (by rfl) ?_ ?_; rotate_left 1; (· (intro j w' hj1 hj2 hS; go_simp; (try (simp only [↓IntWalk.iteOmega]; go_simp)); (try simp (disch := omega) only [IntWalk.i64_in]); try with_reducible rfl)); simp only [Act.put, List.setIfInBounds_toArray, List.set_cons_zero, List.set_cons_succ]) | (refine qs_skip (by rfl) ?_; simp only [Act.put, List.setIfInBounds_toArray, List.set_cons_zero, List.set_cons_succ])))
                  refine qs_act ?_
                  go_wp2
                  obtain ⟨w8, hw8⟩ : ∃ w8, w8 = w7.alloc (.cells #[.int .u8 (x : Int)] 5) := ⟨_, rfl⟩
                  rw [← hw8]
                  have L8 := Lib.hid (show Below w7.heap.size w7 w8 by rw [hw8]; exact (Below.refl _ _).alloc (Nat.le_refl _) _)
                  have S8 := Lib.hid (show Src w8 1 (.slice (some ⟨w7.heap.size, 0, none⟩) 1 1) 1 [.int .u8 (x : Int)] by rw [hw8]; exact src_u8 _ _ _)
                  clear hw8
                  have O8 := Lib.hid (own_below OA.out L8.out)
                  refine ⟨fun _ => (BA.out.below L8.out BA.out.lt).cell (i := 2) rfl, ?_⟩
                  (repeat (first | (refine qs_now (v := ?_) (by rfl) ?_ ?_; rotate_left 1; (· (intro w' hS; go_simp; (try (simp only [↓IntWalk.iteOmega]; go_simp)); (try simp (disch := omega) only [IntWalk.i64_in]); try with_reducible rfl)); simp only [Act.put, List.setIfInBounds_toArray, List.set_cons_zero, List.set_cons_succ]) | (refine qs_run (v := ?_) (by rfl) ?_ ?_; rotate_left 1; (· (intro j w' hS; go_simp; (try (simp only [↓IntWalk.iteOmega]; go_simp)); (try simp (disch := omega) only [IntWalk.i64_in]); try with_reducible rfl)); simp only [Act.put, List.setIfInBounds_toArray, List.set_cons_zero, List.set_cons_succ]) | (refine qs_mid (v := ?_) (by rfl) ?_ ?_; rotate_left 1; (· (intro j w' hj1 hj2 hS; go_simp; (try (simp only [↓IntWalk.iteOmega]; go_simp)); (try simp (disch := omega) only [IntWalk.i64_in]); try with_reducible rfl)); simp only [Act.put, List.setIfInBounds_toArray, List.set_cons_zero, List.set_cons_succ]) | (refine qs_skip (by rfl) ?_; simp only [Act.put, List.setIfInBounds_toArray, List.set_cons_zero, List.set_cons_succ])))
                  refine qs_act ?_
                  refine app_src rfl (.tmp 87) (.tmp 91) 22 rfl 0 5 _ 1 1 Tryd.underlying22 infoByte rfl (by omega) _ o1.length _ rfl O8.out _ 1 _ rfl S8.out (by simp [Value.oneCell']) (by omega) (by omega) (Nat.zero_le _) ?_
                  intro v9 w9 ho9 hg9 hor9
                  obtain ⟨A9', c9, hv9, _⟩ := own_slice ho9
                  subst hv9
                  have hP := ref_push (v9 := .slice A9' (o1.length + 1) c9) (x := (x : Int)) H7.out BA.out L8.out hg9 hor9 (by simpa using ho9) (by omega)
                  have f9 := hP.2.2.free 2
                  have d9 := hP.2.2.cell (i := 2) rfl
                  have HP := Lib.hid hP
                  clear ho9 hg9 hor9 hP
                  refine wpList_nil ?_
                  refine ⟨fun h => absurd h (by omega), ?_⟩
                  (repeat (first | (refine qs_now (v := ?_) (by rfl) ?_ ?_; rotate_left 1; (· (intro w' hS; go_simp; (try (simp only [↓IntWalk.iteOmega]; go_simp)); (try simp (disch := omega) only [IntWalk.i64_in]); try with_reducible rfl)); simp only [Act.put, List.setIfInBounds_toArray, List.set_cons_zero, List.set_cons_succ]) | (refine qs_run (v := ?_) (by rfl) ?_ ?_; rotate_left 1; (· (intro j w' hS; go_simp; (try (simp only [↓IntWalk.iteOmega]; go_simp)); (try simp (disch := omega) only [IntWalk.i64_in]); try with_reducible rfl)); simp only [Act.put, List.setIfInBounds_toArray, List.set_cons_zero, List.set_cons_succ]) | (refine qs_mid (v := ?_) (by rfl) ?_ ?_; rotate_left 1; (· (intro j w' hj1 hj2 hS; go_simp; (try (simp only [↓IntWalk.iteOmega]; go_simp)); (try simp (disch := omega) only [IntWalk.i64_in]); try with_reducible rfl)); simp only [Act.put, List.setIfInBounds_toArray, List.set_cons_zero, List.set_cons_succ]) | (refine qs_skip (by rfl) ?_; simp only [Act.put, List.setIfInBounds_toArray, List.set_cons_zero, List.set_cons_succ])))
                  refine qs_act ?_
                  go_wp2
                  refine ⟨fun h => absurd h (by omega), ?_⟩
                  refine qs_nil ?_
                  go_wp2
                  go_roundg (gk - 1)
                  case measure => omega
                  case rel =>
                    refine ⟨i + 1, by omega, by go_num, ?_, S7.out.trans HP.out.2.1⟩
                    rw [HBs.out, ← List.append_assoc, HO1.out, show p3 + 8 * (i + 1) = p3 + 8 * i + 8 from by omega]
                    exact HP.out.1
                · obtain rfl : i = n := by omega
                  go_wp2
                  go_end0
                  exact ⟨_, _, 0, rfl, H6.out, S6.out, by rw [List.length_append, bytesR_len]; omega, by rw [HT3.out]; exact ⟨rfl, rfl, rfl⟩⟩
      · have dsum : ((n : Int) + m != 65535) = true := by simp; omega
        have HE := Lib.hid (show (if e3 = 0 then (4 : Int) else e3) = 4 ∧ T = .bad false by
          rcases T3.out with ⟨a, b⟩ | ⟨a, b⟩
          · rw [a]; exact ⟨rfl, b⟩
          · rw [if_pos (.inl hsum)] at b
            rw [if_pos a]; exact ⟨rfl, b⟩)
        clear T3
        go_wp2_with fail
        refine (rfail_any base s bs p3 out (most : Int) e3 4 w3 H3.out).mono ?_
        rintro ev w4 ⟨rfl, hs4, st4, _⟩
        rw [HE.out.1] at hs4
        have HTb := Lib.hid HE.out.2
        have H7 := Lib.hid hs4
        have S7 := Lib.hid (S3.out.trans st4)
        clear hs4 st4 H3 S3 HE
        obtain ⟨A7, c7, A27, c27, b7, _, _⟩ := H7.out.parts
        have f0 := b7.cell (i := 0) (v := .slice A7 (8 * bs.length) c7) rfl
        have f1 := b7.cell (i := 1) (v := .int .i64 (p3 : Int)) rfl
        have f4 := b7.cell (i := 4) (v := .int .i64 4) rfl
        have hb7 := H7.out.2.2.1
        clear b7
        go_wp2
        refine wp_region_qs (fun _ w' => w'.cell? ⟨s, 0, none⟩ = some (.slice A7 (8 * bs.length) c7) ∧ w'.cell? ⟨s, 1, none⟩ = some (.int .i64 (p3 : Int)) ∧ w'.cell? ⟨s, 4, none⟩ = some (.int .i64 4)) [(0, some 0), (1, some 0), (2, some 0), (3, some 0), (4, some 0), (5, some 0), (6, some 0), (7, some 0), (8, some 0), (9, some 0), (10, some 0), (11, some 0), (12, some 0), (13, some 0), (14, some 0), (15, some 0), (16, some 0), (17, some 0), (18, some 0), (19, some 0)] (by kernel_rfl) (by kernel_rfl) (by kernel_rfl) (by kernel_rfl) (by kernel_rfl) (fun _ _ _ _ _ h => h) ⟨f0, f1, f4⟩ ?_
        simp only [List.map_cons, List.map_nil, List.getD_cons_succ, List.getD_cons_zero]
        (repeat (first | (refine qs_now (v := ?_) (by rfl) ?_ ?_; rotate_left 1; (· (intro w' hS; go_simp; (try (simp only [↓IntWalk.iteOmega]; go_simp)); (try simp (disch := omega) only [IntWalk.i64_in]); try with_reducible rfl)); simp only [Act.put, List.setIfInBounds_toArray, List.set_cons_zero, List.set_cons_succ]) | (refine qs_run (v := ?_) (by rfl) ?_ ?_; rotate_left 1; (· (intro j w' hS; go_simp; (try (simp only [↓IntWalk.iteOmega]; go_simp)); (try simp (disch := omega) only [IntWalk.i64_in]); try with_reducible rfl)); simp only [Act.put, List.setIfInBounds_toArray, List.set_cons_zero, List.set_cons_succ]) | (refine qs_skip (by rfl) ?_; simp only [Act.put, List.setIfInBounds_toArray, List.set_cons_zero, List.set_cons_succ])))
        refine qs_nil ?_
        have hdr7 := (Below.refl w4.heap.size w4).drew
        have H8 := Lib.hid (H7.out.below hdr7)
        have S8 := Lib.hid (S7.out.trans (StStep.of_below hdr7 hb7))
        clear H7 S7 hdr7 f0 f1 f4
        obtain ⟨A8, c8, A28, c28, b8, _, _⟩ := H8.out.parts
        have g2 := b8.cell (i := 2) (v := .slice A28 out.length c28) rfl
        have g3 := b8.cell (i := 3) (v := .int .i64 (most : Int)) rfl
        have g4 := b8.cell (i := 4) (v := .int .i64 4) rfl
        have hb8 := H8.out.2.2.1
        clear b8
        go_wp2
        refine wp_region_qs (fun _ w' => w'.cell? ⟨s, 2, none⟩ = some (.slice A28 out.length c28) ∧ w'.cell? ⟨s, 3, none⟩ = some (.int .i64 (most : Int)) ∧ w'.cell? ⟨s, 4, none⟩ = some (.int .i64 4)) [(0, some 0), (1, some 0), (2, some 0), (3, some 0), (4, some 0), (5, some 0), (6, some 0), (7, some 0), (8, some 0), (9, some 0), (10, some 0), (11, some 0), (12, some 0), (13, some 0), (14, some 0), (15, some 0), (16, some 0), (17, some 0), (18, some 0)] (by kernel_rfl) (by kernel_rfl) (by kernel_rfl) (by kernel_rfl) (by kernel_rfl) (fun _ _ _ _ _ h => h) ⟨g2, g3, g4⟩ ?_
        simp only [List.map_cons, List.map_nil, List.getD_cons_succ, List.getD_cons_zero]
        (repeat (first | (refine qs_now (v := ?_) (by rfl) ?_ ?_; rotate_left 1; (· (intro w' hS; go_simp; (try (simp only [↓IntWalk.iteOmega]; go_simp)); (try simp (disch := omega) only [IntWalk.i64_in]); try with_reducible rfl)); simp only [Act.put, List.setIfInBounds_toArray, List.set_cons_zero, List.set_cons_succ]) | (refine qs_run (v := ?_) (by rfl) ?_ ?_; rotate_left 1; (· (intro j w' hS; go_simp; (try (simp only [↓IntWalk.iteOmega]; go_simp)); (try simp (disch := omega) only [IntWalk.i64_in]); try with_reducible rfl)); simp only [Act.put, List.setIfInBounds_toArray, List.set_cons_zero, List.set_cons_succ]) | (refine qs_skip (by rfl) ?_; simp only [Act.put, List.setIfInBounds_toArray, List.set_cons_zero, List.set_cons_succ])))
        refine qs_nil ?_
        have hdr8 := (Below.refl w4.drew.heap.size w4.drew).drew
        have H9 := Lib.hid (H8.out.below hdr8)
        have S9 := Lib.hid (S8.out.trans (StStep.of_below hdr8 hb8))
        clear H8 S8 hdr8 g2 g3 g4
        go_wp2
        go_loopg [4] 0 (RDead base s bs out p3 (most : Int) 4 w)
        case atStart => exact ⟨rfl, H9.out, S9.out⟩
        case round =>
          clear H9 S9
          obtain ⟨rfl, hs9, st9⟩ := hrel
          have H9 := Lib.hid hs9
          have S9 := Lib.hid st9
          have c49 := hs9.c4
          clear hs9 st9
          by_cases hn0 : 0 < n
          · have hn0I : (0 : Int) < n := by omega
            go_wp2
            go_end0
            exact ⟨p3, out, 4, rfl, H9.out, S9.out, ho, by rw [HTb.out]; rfl⟩
          · have hn0I : ¬ (0 : Int) < n := by omega
            go_wp2
            go_end0
            exact ⟨p3, out, 4, rfl, H9.out, S9.out, ho, by rw [HTb.out]; rfl⟩
    · have dq : ((q : Int) % 8 != 0) = true := by simp; omega
      have hq4 : q < alignR p := by
        have := HA8.out q hq1 (by omega)
        rcases Nat.lt_or_ge q (alignR p) with h | h
        · exact h
        · exfalso
          have e : q = alignR p := by omega
          apply hq8
          rw [e]
          unfold alignR
          omega
      go_wp2
      go_roundg (gk - 1)
      case measure => omega
      case rel =>
        have G := grown_put wr ⟨s, 1, none⟩ (.int .i64 ((q : Int) + 1))
        have ht := H.out.turn (p' := q + 1) B0.out G (by have := B0.out.put 1 (.int .i64 ((q : Int) + 1)); simpa using this) (by omega) O0.out LO.out hBo
        exact ⟨q + 1, by omega, by omega, ht.1, S.out.trans ht.2⟩
end Go.Proofs.YtlhaehefhhcgaaaDoor
namespace Go.Proofs.YtlhaehefhhcgaaaDoor
open Go.RowKit
set_option linter.unusedVariables false

def TabPost (l : List Int) (n : Nat) (w : World) (ev : Ending) (w' : World) : Prop :=
  ∃ g, ev = .returned (.slice (some ⟨g, 0, none⟩) n n) ∧ Blk w' g 3 (l.map (Value.int .i64)).toArray ∧ w.heap.size ≤ g ∧ Below w.heap.size w w'
theorem tab_cell {w : World} {g : Nat} {l : List Int} (h : Blk w g 3 (l.map (Value.int .i64)).toArray) {j : Nat} (hj : j < l.length) : w.cell? ⟨g, j, none⟩ = some (.int .i64 (l.getD j 0)) := by
  refine h.cell ?_
  simp [hj]
theorem rlb_any (w : World) : Calls Tryd.prog 42 #[] w (TabPost lbases 29 w) := by
  go_enter Tryd.func42, Tryd.ntmps42
  go_wp2
  go_ret
  exact ⟨w.heap.size, rfl, Blk.made _ _ _, Nat.le_refl _, (Below.refl _ _).alloc (Nat.le_refl _) _⟩
theorem rlx_any (w : World) : Calls Tryd.prog 43 #[] w (TabPost lbits 29 w) := by
  go_enter Tryd.func43, Tryd.ntmps43
  go_wp2
  go_ret
  exact ⟨w.heap.size, rfl, Blk.made _ _ _, Nat.le_refl _, (Below.refl _ _).alloc (Nat.le_refl _) _⟩
theorem rdb_any (w : World) : Calls Tryd.prog 44 #[] w (TabPost dbases 30 w) := by
  go_enter Tryd.func44, Tryd.ntmps44
  go_wp2
  go_ret
  exact ⟨w.heap.size, rfl, Blk.made _ _ _, Nat.le_refl _, (Below.refl _ _).alloc (Nat.le_refl _) _⟩
theorem rdx_any (w : World) : Calls Tryd.prog 45 #[] w (TabPost dbits 30 w) := by
  go_enter Tryd.func45, Tryd.ntmps45
  go_wp2
  go_ret
  exact ⟨w.heap.size, rfl, Blk.made _ _ _, Nat.le_refl _, (Below.refl _ _).alloc (Nat.le_refl _) _⟩
theorem rorder_any (w : World) : Calls Tryd.prog 50 #[] w (TabPost orderL 19 w) := by
  go_enter Tryd.func50, Tryd.ntmps50
  go_wp2
  go_ret
  exact ⟨w.heap.size, rfl, Blk.made _ _ _, Nat.le_refl _, (Below.refl _ _).alloc (Nat.le_refl _) _⟩
end Go.Proofs.YtlhaehefhhcgaaaDoor
