/-
  bitio's writer: what is put stands behind, bit by bit.
-/
import Derived.Test.YtlhaehefhhcgaaaDoorBitsPlain
import Derived.Test.YtlhaehefhhcgaaaDoorPairs
namespace Go.Proofs.YtlhaehefhhcgaaaDoor
open Go.RowKit
set_option linter.unusedVariables false

/-- What a writer may turn: its own block and that of its row. -/
structure WrStep (w w' : World) (g : Nat) (own own' : Option Nat) : Prop where
  os : w'.os = w.os
  tape : w'.tape = w.tape
  output : w'.output = w.output
  size : w.heap.size ≤ w'.heap.size
  block : ∀ k, k < w.heap.size → k ≠ g → some k ≠ own → w'.heap[k]? = w.heap[k]?
  own : own' = own ∨ ∃ j, own' = some j ∧ w.heap.size ≤ j
theorem WrStep.refl (w : World) (g : Nat) (own : Option Nat) : WrStep w w g own own := ⟨rfl, rfl, rfl, Nat.le_refl _, fun _ _ _ _ => rfl, .inl rfl⟩
theorem WrStep.trans {w w1 w2 : World} {g : Nat} {o o1 o2 : Option Nat} (h : WrStep w w1 g o o1) (k : WrStep w1 w2 g o1 o2) : WrStep w w2 g o o2 := by
  refine ⟨k.os.trans h.os, k.tape.trans h.tape, k.output.trans h.output, Nat.le_trans h.size k.size, fun j hj hg ho => ?_, ?_⟩
  · refine (k.block j (Nat.lt_of_lt_of_le hj h.size) hg ?_).trans (h.block j hj hg ho)
    rcases h.own with e | ⟨i, e, hi⟩
    · rw [e]; exact ho
    · rw [e]; intro hh; injection hh with hh; omega
  · rcases k.own with e | ⟨i, e, hi⟩
    · rw [e]; exact h.own
    · exact .inr ⟨i, e, Nat.le_trans h.size hi⟩
theorem WrStep.of_put {w w' : World} {g : Nat} {own : Option Nat} (h : w.grownBy w' (some g)) : WrStep w w' g own own :=
  ⟨h.os, h.tape, h.output, h.size, fun k hk hg _ => h.block k hk (fun e => hg (by injection e)), .inl rfl⟩
theorem WrStep.of_app {w w' : World} {g : Nat} {own own' : Option Nat} (h : w.grownBy w' own) (ho : own' = own ∨ own' = some w.heap.size) : WrStep w w' g own own' :=
  ⟨h.os, h.tape, h.output, h.size, fun k hk _ ho => h.block k hk ho, ho.imp id (fun e => ⟨_, e, Nat.le_refl _⟩)⟩
theorem WrStep.of_below {w w' : World} {g : Nat} {own : Option Nat} (h : Below w.heap.size w w') : WrStep w w' g own own :=
  ⟨h.os, h.tape, h.output, h.size, fun k hk _ _ => h.block k hk, .inl rfl⟩
/-- All that lies below the writer stays. -/
theorem WrStep.below {w w' : World} {g B : Nat} {own own' : Option Nat} (h : WrStep w w' g own own') (hg : B ≤ g) (ho : ∀ j, own = some j → B ≤ j) (hB : B ≤ w.heap.size) : Below B w w' :=
  ⟨h.os, h.tape, h.output, h.size, fun k hk => h.block k (by omega) (by omega) (fun e => by have := ho k e.symm; omega)⟩

theorem grown_put_drew (w : World) (p : Addr) (u : Value) : w.grownBy (w.setCell p u).drew (some p.block) := ⟨rfl, rfl, rfl, by simp [World.drew], fun k _ hk => Below.heap_setCell w p u k (fun e => hk (by rw [e]))⟩
def WrAt (w : World) (g : Nat) (v : Value) (bs : List Int) (rest n : Nat) : Prop :=
  Blk w g 92 #[.bool true, v, .int .u64 (rest : Int), .int .i64 (n : Int)] ∧ w.ownsRow 0 5 1 v bs.length (bs.map (Value.int .u8)) ∧ Bytes bs
/-- A writer that has the bits bt lies in block g, its row in block own. -/
def WrOk (w : World) (g : Nat) (own : Option Nat) (bt : List Int) : Prop :=
  ∃ v bs rest n, WrAt w g v bs rest n ∧ v.ownBlock = own ∧ n < 8 ∧ rest < 2 ^ n ∧ bt.length = 8 * bs.length + n ∧ numOf bt = leNum bs + rest * 256 ^ bs.length ∧ Bit01 bt
theorem WrOk.below {w w' : World} {g : Nat} {own : Option Nat} {bt : List Int} (h : WrOk w g own bt) (hb : Below w.heap.size w w') : WrOk w' g own bt := by
  obtain ⟨v, bs, rest, n, ⟨h1, h2, h3⟩, h4⟩ := h
  exact ⟨v, bs, rest, n, ⟨h1.below hb h1.lt, own_below h2 hb, h3⟩, h4⟩
theorem wr_apart {w : World} {r : Nat} {cs : Array Value} {base n : Nat} {v : Value} {xs : List Value} (hb : Blk w r 92 cs) (h : w.ownsRow base 5 1 v n xs) : v.ownBlock = none ∨ v.ownBlock ≠ some r := by
  rcases h.2 with ⟨rfl, _⟩ | ⟨g', cap, cur, rfl, _, hg, _⟩
  · exact .inl rfl
  · refine .inr (fun he => ?_)
    simp only [Value.ownBlock, Option.some.injEq] at he
    subst he
    unfold Blk at hb
    rw [hg] at hb
    injection hb with hb
    injection hb with _ ht
    exact absurd ht (by decide)

theorem src_one8 (W : World) (t : TypeId) (y : Value) : Src (W.alloc (.cells #[y] t)).drew 1 (.slice (some ⟨W.heap.size, 0, none⟩) 1 1) 1 [y] :=
  ⟨_, 1, rfl, rfl, fun _ => ⟨W.heap.size, 0, rfl, by simp, fun j u hu => by rw [Nat.zero_add, ((Blk.made W t #[y]).drew).cellq]; simpa using hu⟩⟩
theorem src_one8' (W : World) (t : TypeId) (y : Value) : Src (W.alloc (.cells #[y] t)) 1 (.slice (some ⟨W.heap.size, 0, none⟩) 1 1) 1 [y] :=
  ⟨_, 1, rfl, rfl, fun _ => ⟨W.heap.size, 0, rfl, by simp, fun j u hu => by rw [Nat.zero_add, (Blk.made W t #[y]).cellq]; simpa using hu⟩⟩
def NewWPost (w : World) (e : Ending) (w' : World) : Prop :=
  ∃ g, e = .returned (.pointer (some ⟨g, 0, none⟩)) ∧ w.heap.size ≤ g ∧ WrOk w' g none [] ∧ Below w.heap.size w w'
theorem built_wr : Tryd.prog.built 92 [(0, .bool true)] = some #[.bool true, .slice none 0 0, .int .u64 0, .int .i64 0] := by kernel_rfl
set_option maxHeartbeats 800000 in
theorem newWriter_any (w : World) : Calls Tryd.prog 17 #[] w (NewWPost w) := by
  go_enter Tryd.func17, Tryd.ntmps17
  go_wp2
  go_ret
  exact ⟨w.heap.size, rfl, Nat.le_refl _, ⟨.slice none 0 0, [], 0, 0, ⟨Blk.made _ _ _, World.ownsRow_nil _ _ _ _, fun z hz => by simp at hz⟩, rfl, by omega, by simp, by simp, by simp [numOf, leNum], fun z hz => by simp at hz⟩, (Below.refl _ _).alloc (Nat.le_refl _) _⟩

theorem put_num (rest n0 v n : Nat) (hr : rest < 2 ^ n0) (hn0 : n0 < 8) (hv : v < 4294967296) (hn : n ≤ 32) :
    bits .or .u64 (rest : Int) (IntKind.u64.wrap (bits .and .u64 (v : Int) (IntKind.u64.wrap (IntKind.u64.wrap (2 ^ n) - 1)) * 2 ^ n0)) = ((rest + v % 2 ^ n * 2 ^ n0 : Nat) : Int) := by
  have hb : 2 ^ n ≤ 2 ^ 32 := Nat.pow_le_pow_right (by omega) hn
  have hb0 : 2 ^ n0 ≤ 2 ^ 7 := Nat.pow_le_pow_right (by omega) (by omega)
  have hpos : 0 < 2 ^ n := Nat.two_pow_pos n
  have e0 : (2 : Int) ^ n = ((2 ^ n : Nat) : Int) := by push_cast; rfl
  have e1 : IntKind.u64.wrap (2 ^ n) = 2 ^ n := by rw [IntKind.wrap_u64, e0]; omega
  have e2 : IntKind.u64.wrap (2 ^ n - 1) = 2 ^ n - 1 := by rw [IntKind.wrap_u64, e0]; omega
  have h := bits_mask .u64 63 (by decide) (fun n h0 h1 => by rw [IntKind.wrap_u64]; omega) n (by omega) (v : Int) (Int.natCast_nonneg _) (by omega)
  have hlt : v % 2 ^ n < 2 ^ n := Nat.mod_lt _ hpos
  have hm : v % 2 ^ n * 2 ^ n0 ≤ 2 ^ 32 * 2 ^ 7 := Nat.mul_le_mul (by omega) hb0
  have e3 : ((v : Int) % 2 ^ n) * 2 ^ n0 = ((v % 2 ^ n * 2 ^ n0 : Nat) : Int) := by push_cast; rfl
  have e4 : IntKind.u64.wrap ((v % 2 ^ n * 2 ^ n0 : Nat) : Int) = ((v % 2 ^ n * 2 ^ n0 : Nat) : Int) := by rw [IntKind.wrap_u64]; omega
  rw [e1, e2, h, e3, e4, bits_or_u64_nat _ _ (by omega) (by omega)]
  have h3 := Nat.shiftLeft_add_eq_or_of_lt hr (v % 2 ^ n)
  rw [Nat.shiftLeft_eq] at h3
  rw [Nat.or_comm, ← h3, Nat.add_comm]

def PutPost (bt : List Int) (g : Nat) (own : Option Nat) (v n : Nat) (w : World) (e : Ending) (w' : World) : Prop :=
  e = .returned (.bool true) ∧ ∃ own', WrOk w' g own' (bt ++ bitsL v n) ∧ WrStep w w' g own own'
def Wr1 (bt : List Int) (g : Nat) (own : Option Nat) (w wr : World) : Prop :=
  ∃ v bs rest n own', WrAt wr g v bs rest n ∧ v.ownBlock = own' ∧ n < 40 ∧ rest < 2 ^ n ∧ bt.length = 8 * bs.length + n ∧ numOf bt = leNum bs + rest * 256 ^ bs.length ∧ WrStep w wr g own own'
def restOf (g : Nat) (wr : World) : Nat := match wr.cell? ⟨g, 3, none⟩ with
  | some (.int _ z) => z.toNat
  | _ => 0

set_option maxHeartbeats 1600000 in
theorem put_any (bt : List Int) (g : Nat) (own : Option Nat) (v n : Nat) (w : World) (h : WrOk w g own bt) (hv : v < 4294967296) (hn : n ≤ 32) (hl : bt.length ≤ 1000000000) :
    Calls Tryd.prog 19 #[.pointer (some ⟨g, 0, none⟩), .int .u32 (v : Int), .int .i64 (n : Int)] w (PutPost bt g own v n w) := by
  obtain ⟨sv, bs, rest, n0, ⟨hb, ho, hB⟩, hown, hn0, hrest, hlen, hnum, h01⟩ := h
  obtain ⟨A, c, rfl, hc⟩ := own_slice ho
  have c0 := hb.cell (i := 0) (v := .bool true) rfl
  have c2 := hb.cell (i := 2) (v := .int .u64 (rest : Int)) rfl
  have c3 := hb.cell (i := 3) (v := .int .i64 (n0 : Int)) rfl
  have f2 := hb.free 2
  have HB := Lib.hid hb
  have HO := Lib.hid ho
  have HBy := Lib.hid hB
  have HOwn := Lib.hid hown
  have HNum := Lib.hid hnum
  have H01 := Lib.hid h01
  have HLen := Lib.hid hlen
  have hbl : bs.length ≤ 1000000000 := by omega
  have HPN := Lib.hid (put_num rest n0 v n hrest hn0 hv hn)
  have HRest := Lib.hid hrest
  clear hb ho hB hown hnum h01 hlen hrest
  have h1 : ¬ (n : Int) < 0 := by omega
  have h2 : ¬ (32 : Int) < n := by omega
  go_enter Tryd.func19, Tryd.ntmps19
  go_wp2
  refine wp_region_qs (fun j w' => j ≤ 0 → w'.cell? ⟨g, 2, none⟩ = some (.int .u64 (rest : Int)) ∧ w'.cell? ⟨g, 3, none⟩ = some (.int .i64 (n0 : Int))) [(0, some 0), (1, some 0), (2, some 0), (3, some 0), (4, some 0), (5, some 0), (6, some 0), (7, some 0), (8, some 0), (9, some 0), (10, some 0), (11, some 0), (12, some 0), (13, some 0), (14, some 0), (15, some 0), (16, some 1), (17, some 0), (18, none)] (by kernel_rfl) (by kernel_rfl) (by kernel_rfl) (by kernel_rfl) (by kernel_rfl) (fun _ _ _ _ _ h => h) (fun _ => ⟨c2, c3⟩) ?_
  simp only [List.map_cons, List.map_nil, List.getD_cons_succ, List.getD_cons_zero]
  (repeat (first | (refine qs_now (v := ?_) (by rfl) ?_ ?_; rotate_left 1; (· (intro w' hS; go_simp; (try (simp only [↓IntWalk.iteOmega]; go_simp)); (try simp (disch := omega) only [IntWalk.i64_in]); try with_reducible rfl)); simp only [Act.put, List.setIfInBounds_toArray, List.set_cons_zero, List.set_cons_succ]) | (refine qs_run (v := ?_) (by rfl) ?_ ?_; rotate_left 1; (· (intro j w' hS; go_simp; (try (simp only [↓IntWalk.iteOmega]; go_simp)); (try simp (disch := omega) only [IntWalk.i64_in]); try with_reducible rfl)); simp only [Act.put, List.setIfInBounds_toArray, List.set_cons_zero, List.set_cons_succ]) | (refine qs_mid (v := ?_) (by rfl) ?_ ?_; rotate_left 1; (· (intro j w' hj1 hj2 hS; go_simp; (try (simp only [↓IntWalk.iteOmega]; go_simp)); (try simp (disch := omega) only [IntWalk.i64_in]); try with_reducible rfl)); simp only [Act.put, List.setIfInBounds_toArray, List.set_cons_zero, List.set_cons_succ]) | (refine qs_skip (by rfl) ?_; simp only [Act.put, List.setIfInBounds_toArray, List.set_cons_zero, List.set_cons_succ])))
  refine qs_act ?_
  go_wp2
  rw [HPN.out]
  refine ⟨fun h => absurd h (by omega), ?_⟩
  refine qs_nil ?_
  obtain ⟨w1, hw1⟩ : ∃ w1, w1 = (w.setCell ⟨g, 2, none⟩ (.int .u64 ((rest + v % 2 ^ n * 2 ^ n0 : Nat) : Int))).drew := ⟨_, rfl⟩
  rw [← hw1]
  have B1 := Lib.hid (show Blk w1 g 92 #[.bool true, .slice A bs.length c, .int .u64 ((rest + v % 2 ^ n * 2 ^ n0 : Nat) : Int), .int .i64 (n0 : Int)] by rw [hw1]; exact (HB.out.put 2 _).drew)
  have G1 := Lib.hid (show w.grownBy w1 (some g) by rw [hw1]; exact grown_put_drew _ _ _)
  clear hw1 c0 c2 c3 f2 HPN
  have O1 := Lib.hid (HO.out.kept G1.out (wr_apart HB.out HO.out))
  have c3 := B1.out.cell (i := 3) (v := .int .i64 (n0 : Int)) rfl
  have f3 := B1.out.free 3
  go_wp2
  obtain ⟨w2, hw2⟩ : ∃ w2, w2 = (w1.setCell ⟨g, 3, none⟩ (.int .i64 ((n0 : Int) + n))) := ⟨_, rfl⟩
  rw [← hw2]
  have B2 := Lib.hid (show Blk w2 g 92 #[.bool true, .slice A bs.length c, .int .u64 ((rest + v % 2 ^ n * 2 ^ n0 : Nat) : Int), .int .i64 ((n0 + n : Nat) : Int)] by rw [hw2]; exact (B1.out.put 3 _))
  have G2 := Lib.hid (show w1.grownBy w2 (some g) by rw [hw2]; exact grown_put _ _ _)
  clear hw2 c3 f3
  have O2 := Lib.hid (O1.out.kept G2.out (wr_apart B1.out O1.out))
  have T2 := Lib.hid ((WrStep.of_put (own := own) G1.out).trans (WrStep.of_put G2.out))
  clear O1 B1 G1 G2 HB HO
  have HL' := Lib.hid (show (bt ++ bitsL v n).length = 8 * bs.length + (n0 + n) by rw [List.length_append, bitsL_len, HLen.out]; omega)
  have HN' := Lib.hid (show numOf (bt ++ bitsL v n) = leNum bs + (rest + v % 2 ^ n * 2 ^ n0) * 256 ^ bs.length by
    rw [numOf_append, bitsL_num, HNum.out, HLen.out, pow256, Nat.pow_add, Nat.add_mul, Nat.mul_assoc, Nat.mul_comm (2 ^ (8 * bs.length)) (2 ^ n0), Nat.add_assoc])
  have HR' := Lib.hid (show rest + v % 2 ^ n * 2 ^ n0 < 2 ^ (n0 + n) by
    have h1 : v % 2 ^ n + 1 ≤ 2 ^ n := Nat.mod_lt _ (Nat.two_pow_pos n)
    have h2 := Nat.mul_le_mul_right (2 ^ n0) h1
    rw [Nat.pow_add, Nat.mul_comm (2 ^ n0) (2 ^ n)]
    have h3 := HRest.out
    rw [Nat.add_mul, Nat.one_mul] at h2
    omega)
  have H01' := Lib.hid (H01.out.append (bitsL_01 n v))
  have hl' : (bt ++ bitsL v n).length ≤ 1000000100 := by rw [HL'.out]; have := HLen.out; omega
  generalize rest + v % 2 ^ n * 2 ^ n0 = rest1 at *
  generalize hbt1 : bt ++ bitsL v n = bt1 at *
  have HBT := Lib.hid hbt1
  clear hbt1
  go_loopw [] (Wr1 bt1 g own w) (restOf g)
  case atStart => exact ⟨_, bs, rest1, n0 + n, own, ⟨B2.out, O2.out, HBy.out⟩, HOwn.out, by omega, HR'.out, HL'.out, HN'.out, T2.out⟩
  case round =>
    clear B2 O2 T2 HR' HL' HN' HOwn HBy HRest HNum HLen
    obtain ⟨v', bs, rest, n, own', ⟨hb, ho, hB⟩, hown, hn40, hrest, hlen, hnum, hst⟩ := hrel
    obtain ⟨A, c, rfl, hc⟩ := own_slice ho
    have c1 := hb.cell (i := 1) (v := .slice A bs.length c) rfl
    have c2 := hb.cell (i := 2) (v := .int .u64 (rest : Int)) rfl
    have c3 := hb.cell (i := 3) (v := .int .i64 (n : Int)) rfl
    have HB := Lib.hid hb
    have HO := Lib.hid ho
    have HBy := Lib.hid hB
    have HOwn := Lib.hid hown
    have HNum := Lib.hid hnum
    have HLen := Lib.hid hlen
    have HSt := Lib.hid hst
    have hbl : bs.length ≤ 1000000100 := by omega
    have HRest := Lib.hid hrest
    have hr64 : rest < 1099511627776 := Nat.lt_of_lt_of_le hrest (Nat.pow_le_pow_right (n := 2) (i := n) (j := 40) (by omega) (by omega))
    have HMe := Lib.hid (show restOf g wr = n by unfold restOf; rw [c3]; simp)
    clear hb ho hB hown hnum hlen hst hrest
    by_cases h8 : 8 ≤ n
    · have h8I : (8 : Int) ≤ n := by omega
      go_wp2
      refine wp_region_qs (fun j w' => (j ≤ 1 → w'.cell? ⟨g, 1, none⟩ = some (.slice A bs.length c)) ∧ (j ≤ 2 → w'.cell? ⟨g, 2, none⟩ = some (.int .u64 (rest : Int)))) [(0, some 2), (1, some 2), (2, some 2), (3, some 2), (4, some 1), (5, some 2), (6, some 2), (7, some 2), (8, some 2), (9, some 1), (10, none), (11, none), (12, some 3), (13, some 2), (14, none)] (by kernel_rfl) (by kernel_rfl) (by kernel_rfl) (by kernel_rfl) (by kernel_rfl) (fun _ _ _ _ _ h => h) ⟨fun _ => c1, fun _ => c2⟩ ?_
      simp only [List.map_cons, List.map_nil, List.getD_cons_succ, List.getD_cons_zero]
      (repeat (first | (refine qs_now (v := ?_) (by rfl) ?_ ?_; rotate_left 1; (· (intro w' hS; go_simp; (try (simp only [↓IntWalk.iteOmega]; go_simp)); (try simp (disch := omega) only [IntWalk.i64_in]); try with_reducible rfl)); simp only [Act.put, List.setIfInBounds_toArray, List.set_cons_zero, List.set_cons_succ]) | (refine qs_run (v := ?_) (by rfl) ?_ ?_; rotate_left 1; (· (intro j w' hS; go_simp; (try (simp only [↓IntWalk.iteOmega]; go_simp)); (try simp (disch := omega) only [IntWalk.i64_in]); try with_reducible rfl)); simp only [Act.put, List.setIfInBounds_toArray, List.set_cons_zero, List.set_cons_succ]) | (refine qs_mid (v := ?_) (by rfl) ?_ ?_; rotate_left 1; (· (intro j w' hj1 hj2 hS; go_simp; (try (simp only [↓IntWalk.iteOmega]; go_simp)); (try simp (disch := omega) only [IntWalk.i64_in]); try with_reducible rfl)); simp only [Act.put, List.setIfInBounds_toArray, List.set_cons_zero, List.set_cons_succ]) | (refine qs_skip (by rfl) ?_; simp only [Act.put, List.setIfInBounds_toArray, List.set_cons_zero, List.set_cons_succ])))
      refine qs_act ?_
      go_wp2
      obtain ⟨w3, hw3⟩ : ∃ w3, w3 = (wr.alloc (.cells #[.int .u8 ((rest : Int) % 256)] 5)).drew := ⟨_, rfl⟩
      rw [← hw3]
      have L3 := Lib.hid (show Below wr.heap.size wr w3 by rw [hw3]; exact ((Below.refl _ _).alloc (Nat.le_refl _) _).drew)
      have S3 := Lib.hid (show Src w3 1 (.slice (some ⟨wr.heap.size, 0, none⟩) 1 1) 1 [.int .u8 ((rest : Int) % 256)] by rw [hw3]; exact src_one8 _ _ _)
      clear hw3
      have hglt := HB.out.lt
      have B3 := Lib.hid (HB.out.below L3.out hglt)
      have O3 := Lib.hid (own_below HO.out L3.out)
      refine ⟨⟨fun _ => B3.out.cell (i := 1) rfl, fun _ => B3.out.cell (i := 2) rfl⟩, ?_⟩
      (repeat (first | (refine qs_now (v := ?_) (by rfl) ?_ ?_; rotate_left 1; (· (intro w' hS; go_simp; (try (simp only [↓IntWalk.iteOmega]; go_simp)); (try simp (disch := omega) only [IntWalk.i64_in]); try with_reducible rfl)); simp only [Act.put, List.setIfInBounds_toArray, List.set_cons_zero, List.set_cons_succ]) | (refine qs_run (v := ?_) (by rfl) ?_ ?_; rotate_left 1; (· (intro j w' hS; go_simp; (try (simp only [↓IntWalk.iteOmega]; go_simp)); (try simp (disch := omega) only [IntWalk.i64_in]); try with_reducible rfl)); simp only [Act.put, List.setIfInBounds_toArray, List.set_cons_zero, List.set_cons_succ]) | (refine qs_mid (v := ?_) (by rfl) ?_ ?_; rotate_left 1; (· (intro j w' hj1 hj2 hS; go_simp; (try (simp only [↓IntWalk.iteOmega]; go_simp)); (try simp (disch := omega) only [IntWalk.i64_in]); try with_reducible rfl)); simp only [Act.put, List.setIfInBounds_toArray, List.set_cons_zero, List.set_cons_succ]) | (refine qs_skip (by rfl) ?_; simp only [Act.put, List.setIfInBounds_toArray, List.set_cons_zero, List.set_cons_succ])))
      refine qs_act ?_
      refine app_src rfl (.tmp 66) (.tmp 72) 22 rfl 0 5 _ 1 1 Tryd.underlying22 infoByte rfl (by omega) _ bs.length _ rfl O3.out _ 1 _ rfl S3.out (by simp [Value.oneCell']) (by omega) (by omega) (Nat.zero_le _) ?_
      intro v4 w4 ho4 hg4 hor4
      obtain ⟨A4, c4', hv4, hc4⟩ := own_slice ho4
      subst hv4
      replace hg4 : w3.grownBy w4 (Value.slice A bs.length c).ownBlock := hg4
      replace hor4 : (Value.slice A4 (bs.length + 1) c4').ownBlock = (Value.slice A bs.length c).ownBlock ∨ (Value.slice A4 (bs.length + 1) c4').ownBlock = some w3.heap.size := hor4
      have B4 := Lib.hid (B3.out.grown hg4 (fun e => by
        rcases wr_apart B3.out O3.out with h | h
        · rw [h] at e; cases e
        · exact h e.symm))
      have O4 := Lib.hid ho4
      have T4 := Lib.hid (((HSt.out.trans (WrStep.of_below L3.out))).trans (WrStep.of_app (g := g) (by rw [HOwn.out] at hg4; exact hg4) (by rw [HOwn.out] at hor4; exact hor4)))
      clear ho4 hg4 hor4 c1 c2 c3
      refine wpList_nil ?_
      refine ⟨⟨fun h => absurd h (by omega), fun _ => B4.out.cell (i := 2) rfl⟩, ?_⟩
      (repeat (first | (refine qs_now (v := ?_) (by rfl) ?_ ?_; rotate_left 1; (· (intro w' hS; go_simp; (try (simp only [↓IntWalk.iteOmega]; go_simp)); (try simp (disch := omega) only [IntWalk.i64_in]); try with_reducible rfl)); simp only [Act.put, List.setIfInBounds_toArray, List.set_cons_zero, List.set_cons_succ]) | (refine qs_run (v := ?_) (by rfl) ?_ ?_; rotate_left 1; (· (intro j w' hS; go_simp; (try (simp only [↓IntWalk.iteOmega]; go_simp)); (try simp (disch := omega) only [IntWalk.i64_in]); try with_reducible rfl)); simp only [Act.put, List.setIfInBounds_toArray, List.set_cons_zero, List.set_cons_succ]) | (refine qs_mid (v := ?_) (by rfl) ?_ ?_; rotate_left 1; (· (intro j w' hj1 hj2 hS; go_simp; (try (simp only [↓IntWalk.iteOmega]; go_simp)); (try simp (disch := omega) only [IntWalk.i64_in]); try with_reducible rfl)); simp only [Act.put, List.setIfInBounds_toArray, List.set_cons_zero, List.set_cons_succ]) | (refine qs_skip (by rfl) ?_; simp only [Act.put, List.setIfInBounds_toArray, List.set_cons_zero, List.set_cons_succ])))
      refine qs_act ?_
      have f4 := B4.out.free 1
      have d1 := B4.out.cell (i := 1) rfl
      go_wp2
      obtain ⟨w5, hw5⟩ : ∃ w5, w5 = w4.setCell ⟨g, 1, none⟩ (.slice A4 (bs.length + 1) c4') := ⟨_, rfl⟩
      rw [← hw5]
      have B5 := Lib.hid (show Blk w5 g 92 #[.bool true, .slice A4 (bs.length + 1) c4', .int .u64 (rest : Int), .int .i64 (n : Int)] by rw [hw5]; exact (B4.out.put 1 _))
      have G5 := Lib.hid (show w4.grownBy w5 (some g) by rw [hw5]; exact grown_put _ _ _)
      clear hw5 f4 d1
      have O5 := Lib.hid (O4.out.kept G5.out (wr_apart B4.out O4.out))
      have T5 := Lib.hid (T4.out.trans (WrStep.of_put G5.out))
      clear T4 O4 G5 B4 B3 O3 S3 L3
      refine ⟨⟨fun h => absurd h (by omega), fun h => absurd h (by omega)⟩, ?_⟩
      refine qs_nil ?_
      have f2 := B5.out.free 2
      have d2 := B5.out.cell (i := 2) (v := .int .u64 (rest : Int)) rfl
      have f3 := B5.out.free 3
      have d3 := B5.out.cell (i := 3) (v := .int .i64 (n : Int)) rfl
      go_wp2
      go_roundw
      case rel =>
        have e2 : (rest : Int) / 256 = ((rest / 256 : Nat) : Int) := by omega
        have e3 : (n : Int) - 8 = ((n - 8 : Nat) : Int) := by omega
        rw [e2, e3]
        have G6 := grown_put w5 ⟨g, 2, none⟩ (.int .u64 ((rest / 256 : Nat) : Int))
        have B6 := B5.out.put 2 (.int .u64 ((rest / 256 : Nat) : Int))
        have O6 := O5.out.kept G6 (wr_apart B5.out O5.out)
        have G7 := grown_put (w5.setCell ⟨g, 2, none⟩ (.int .u64 ((rest / 256 : Nat) : Int))) ⟨g, 3, none⟩ (.int .i64 ((n - 8 : Nat) : Int))
        have B7 := B6.put 3 (.int .i64 ((n - 8 : Nat) : Int))
        have O7 := O6.kept G7 (wr_apart B6 O6)
        have e4 : (rest : Int) % 256 = ((rest % 256 : Nat) : Int) := by omega
        have hsn : leNum (bs ++ [((rest % 256 : Nat) : Int)]) = leNum bs + rest % 256 * 256 ^ bs.length := by rw [leNum_snoc, Int.toNat_natCast]
        refine ⟨_, bs ++ [((rest % 256 : Nat) : Int)], rest / 256, n - 8, _, ⟨B7, ?_, ?_⟩, rfl, by omega, ?_, ?_, ?_, (T5.out.trans (WrStep.of_put G6)).trans (WrStep.of_put G7)⟩
        · have := O7
          rw [e4] at this
          simpa using this
        · intro z hz
          rcases List.mem_append.1 hz with hz | hz
          · exact HBy.out z hz
          · obtain rfl : z = ((rest % 256 : Nat) : Int) := by simpa using hz
            omega
        · have h1 := HRest.out
          rw [show n = (n - 8) + 8 from by omega, Nat.pow_add] at h1
          omega
        · have := HLen.out
          simp only [List.length_append, List.length_cons, List.length_nil]
          omega
        · rw [HNum.out, hsn]
          simp only [List.length_append, List.length_cons, List.length_nil, Nat.zero_add]
          rw [Nat.pow_succ, Nat.add_assoc, Nat.mul_comm (256 ^ bs.length) 256, ← Nat.mul_assoc, ← Nat.add_mul]
          congr 2
          omega
      case measure =>
        have e3 : (n : Int) - 8 = ((n - 8 : Nat) : Int) := by omega
        rw [HMe.out, e3]
        have B6 := B5.out.put 2 (.int .u64 ((rest : Int) / 256))
        have B7 := B6.put 3 (.int .i64 ((n - 8 : Nat) : Int))
        have := B7.cell (i := 3) (v := .int .i64 ((n - 8 : Nat) : Int)) rfl
        unfold restOf
        rw [this]
        simp
        omega
    · have h8I : ¬ (8 : Int) ≤ n := by omega
      go_wp2
      go_ret
      exact ⟨rfl, own', by rw [HBT.out]; exact ⟨_, bs, rest, n, ⟨HB.out, HO.out, HBy.out⟩, HOwn.out, by omega, HRest.out, HLen.out, HNum.out, H01'.out⟩, HSt.out⟩

def BytesPost (bt : List Int) (w : World) (e : Ending) (w' : World) : Prop :=
  ∃ A c bs, e = .returned (.slice A bs.length c) ∧ w'.ownsRow w.heap.size 5 1 (.slice A bs.length c) bs.length (bs.map (Value.int .u8)) ∧ Bytes bs ∧ bs.length = (bt.length + 7) / 8 ∧ leNum bs = numOf bt ∧ Below w.heap.size w w'
set_option maxHeartbeats 800000 in
theorem wbytes_any (bt : List Int) (g : Nat) (own : Option Nat) (w : World) (h : WrOk w g own bt) (hl : bt.length ≤ 1000000000) :
    Calls Tryd.prog 24 #[.pointer (some ⟨g, 0, none⟩)] w (BytesPost bt w) := by
  obtain ⟨sv, bs, rest, n, ⟨hb, ho, hB⟩, hown, hn, hrest, hlen, hnum, h01⟩ := h
  obtain ⟨A, c, rfl, hc⟩ := own_slice ho
  have c1 := hb.cell (i := 1) (v := .slice A bs.length c) rfl
  have HB := Lib.hid hb
  have HO := Lib.hid ho
  have HBy := Lib.hid hB
  have HNum := Lib.hid hnum
  have HLen := Lib.hid hlen
  have hbl : bs.length ≤ 1000000000 := by omega
  have hr8 : rest < 256 := Nat.lt_of_lt_of_le hrest (Nat.pow_le_pow_right (n := 2) (i := n) (j := 8) (by omega) (by omega))
  have HRest := Lib.hid hrest
  clear hb ho hB hown hnum h01 hlen hrest
  go_enter Tryd.func24, Tryd.ntmps24
  go_wp2_with fail
  refine (bclone bs A bs.length c w (RdI.of_own HO.out) (by omega)).mono ?_
  rintro ev w1 ⟨A1, c1', rfl, ho1, hb1⟩
  have O1 := Lib.hid ho1
  have L1 := Lib.hid hb1
  have B1 := Lib.hid (HB.out.below hb1 HB.out.lt)
  clear ho1 hb1 c1
  have c3 := B1.out.cell (i := 3) (v := .int .i64 (n : Int)) rfl
  have c2 := B1.out.cell (i := 2) (v := .int .u64 (rest : Int)) rfl
  by_cases h0 : n = 0
  · subst h0
    go_wp2
    go_ret
    refine ⟨A1, c1', bs, rfl, O1.out, HBy.out, ?_, ?_, L1.out⟩
    · have := HLen.out; omega
    · have h1 := HRest.out
      rw [HNum.out, show rest = 0 from by omega]; simp
  · have h0I : (0 : Int) < n := by omega
    go_wp2_with (refine app_src rfl (.tmp 16) (.tmp 22) 22 rfl w.heap.size 5 _ 1 1 Tryd.underlying22 infoByte rfl (by omega) _ bs.length _ rfl (O1.out.alloc _) _ 1 [Value.int .u8 (rest : Int)] rfl (src_one8' _ _ _) (by simp [Value.oneCell']) (by omega) (by omega) (by have := L1.out.size; simp; omega) ?_; intro v2 w2 ho2 hg2 hor2; have O2 := Lib.hid ho2; have G2 := Lib.hid hg2; clear ho2 hg2 hor2)
    have L2 := Lib.hid ((L1.out.alloc L1.out.size _).grown G2.out (by have := L1.out.size; simp; omega) (fun k hk => (O1.out.lt k hk).1))
    obtain ⟨A2, c2', hv2, hc2⟩ := own_slice O2.out
    subst hv2
    go_ret
    refine ⟨A2, c2', bs ++ [(rest : Int)], by simp, by simpa using O2.out, ?_, ?_, ?_, L2.out⟩
    · intro z hz
      rcases List.mem_append.1 hz with hz | hz
      · exact HBy.out z hz
      · obtain rfl : z = (rest : Int) := by simpa using hz
        omega
    · have := HLen.out
      simp only [List.length_append, List.length_cons, List.length_nil]
      omega
    · rw [leNum_snoc, HNum.out, Int.toNat_natCast]
end Go.Proofs.YtlhaehefhhcgaaaDoor
