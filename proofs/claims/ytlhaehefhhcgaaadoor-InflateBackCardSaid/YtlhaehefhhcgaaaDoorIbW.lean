/-
  peatbanklaw06: code, symbol, weights, walked.
-/
import Derived.Test.YtlhaehefhhcgaaaDoorFork
import Derived.Test.YtlhaehefhhcgaaaDoorDputs
import Derived.Test.YtlhaehefhhcgaaaDoorIbPlain
import Derived.Test.YtlhaehefhhcgaaaDoorRefB
namespace Go.Proofs.YtlhaehefhhcgaaaDoor
open Go.RowKit
set_option linter.unusedVariables false
set_option linter.unusedSimpArgs false

theorem ib_bit (c k : Nat) (hc : c < 32768) : bits .and .u32 ((c : Int) / 2 ^ k % 4294967296) 1 = ((c / 2 ^ k % 2 : Nat) : Int) := by
  have e3 : (c : Int) / 2 ^ k = ((c / 2 ^ k : Nat) : Int) := by push_cast; rfl
  have hle : c / 2 ^ k ≤ c := Nat.div_le_self _ _
  rw [e3]
  generalize c / 2 ^ k = y at *
  have e4 : (y : Int) % 4294967296 = y := by omega
  have h := bits_mask .u32 31 (by decide) (fun n h0 h1 => by rw [IntKind.wrap_u32]; omega) 1 (by omega) (y : Int) (by omega) (by omega)
  rw [e4, show (1 : Int) = 2 ^ 1 - 1 from rfl, h]
  omega
theorem CodeOk.cell2 {w : World} {zs : List Int} {gB n c c2 s cn : Nat} {A : Option Addr} (h : CodeOk w zs A (some ⟨gB, 0, none⟩) n c c2) (hs : s < n) (hcn : codeAt zs s = (cn : Int)) : w.cell? ⟨gB, s, none⟩ = some (.int .i64 (cn : Int)) := by
  have hzl := h.len
  have h1 := h.2.cellAt s (by omega)
  rw [ints_get (by unfold codesOf; simp; omega), codes_get (by omega), hcn] at h1
  exact h1
set_option maxHeartbeats 1600000 in
theorem ibcode_any (bt : List Int) (g : Nat) (own : Option Nat) (zs : List Int) (A A2 : Option Addr) (n c c2 s : Nat) (w : World) (h : WrOk w g own bt) (hc : CodeOk w zs A A2 n c c2) (hok : countsOk zs = true) (hs : s < n) (hn : n ≤ 1000000) (hl : bt.length ≤ 900000000) :
    Calls Tryd.prog 46 #[.pointer (some ⟨g, 0, none⟩), .slice A n c, .slice A2 n c2, .int .i64 (s : Int)] w (DPutPost bt g own (litB zs s) w) := by
  have H := Lib.hid h
  have HC := Lib.hid hc
  obtain ⟨cn, zn, hcn, hzn, hz15, hc15, hlit⟩ := code_nat hok (s := s) (by have := hc.len; omega)
  have HLit := Lib.hid hlit
  obtain ⟨gA, capA, hvA, _, hltA⟩ := hc.1.form (by omega)
  obtain ⟨gB, capB, hvB, _, hltB⟩ := hc.2.form (by omega)
  injection hvA with hA _ hcA
  injection hvB with hB _ hcB
  subst hA hB hcA hcB
  have hzl := hc.len
  have cA := hc.1.cellAt s (by omega)
  rw [ints_get (by omega), hzn] at cA
  have HCN := Lib.hid hcn
  clear hlit hcn hzn h hc hok
  go_enter Tryd.func46, Tryd.ntmps46
  go_wp2
  go_loopw [8] (DputI bt g own cn zn w) (fun i _ => (intOf i + 1).toNat)
  case atStart => exact ⟨zn, bt, own, Nat.le_refl _, rfl, rfl, H.out, WrStep.refl _ _ _⟩
  case round =>
    obtain ⟨j, b1, own1, hj, rfl, hb, ho, hst⟩ := hrel
    have hlen : b1.length ≤ 900000100 := by
      have := congrArg List.length hb
      simp only [List.length_append, codeBits_len] at this
      omega
    have HBe := Lib.hid hb
    have HO := Lib.hid ho
    have HSt := Lib.hid hst
    have cB := (HC.out.step H.out hst).cell2 hs HCN.out
    clear hb ho hst
    by_cases h0 : j = 0
    · subst h0
      go_wp2
      go_end0
      refine ⟨rfl, own1, ?_, HSt.out⟩
      have := HBe.out
      simp only [codeBits, List.append_nil] at this
      rw [HLit.out, ← this]; exact HO.out
    · obtain ⟨i, rfl⟩ : ∃ i, j = i + 1 := ⟨j - 1, by omega⟩
      have e1 : ((i + 1 : Nat) : Int) - 1 = i := by omega
      rw [e1]
      have HBC := Lib.hid (ib_bit cn i hc15)
      go_wp2_with fail
      rw [HBC.out]
      have hb2 : cn / 2 ^ i % 2 < 2 := Nat.mod_lt _ (by omega)
      have HNx := Lib.hid (show b1 ++ bitsL (cn / 2 ^ i % 2) 1 ++ codeBits cn i = bt ++ codeBits cn zn by
        rw [← HBe.out]
        simp [codeBits, bitsL])
      refine (put_any b1 g own1 (cn / 2 ^ i % 2) 1 wr HO.out (by omega) (by omega) (by omega)).mono ?_
      rintro ev w1 ⟨rfl, own2, ho2, hst2⟩
      have HO2 := Lib.hid ho2
      have HS2 := Lib.hid (HSt.out.trans hst2)
      clear ho2 hst2
      go_wp2
      go_roundw
      case rel => exact ⟨i, b1 ++ bitsL (cn / 2 ^ i % 2) 1, own2, by omega, by go_num, HNx.out, HO2.out, HS2.out⟩
      case measure => simp [intOf]

theorem rdq_cell {k : IntKind} {w w' : World} {b off n : Nat} {zs : List Int} (h : RdI k w (some ⟨b, off, none⟩) n zs) (hb : Below w.heap.size w w') {j : Nat} (hj : j < n) : w'.cell? ⟨b, off + j, none⟩ = some (.int k (zs.getD j 0)) := by
  obtain ⟨b2, off2, e2, _, hz2⟩ := h.cell hb hj
  injection e2 with e2
  injection e2 with e2 e3
  subst e2
  subst e3
  exact hz2
theorem rdq_some {k : IntKind} {w : World} {A : Option Addr} {n : Nat} {zs : List Int} (h : RdI k w A n zs) (hn : 0 < n) : ∃ b off, A = some ⟨b, off, none⟩ ∧ b < w.heap.size := by
  obtain ⟨b2, off2, e2, h2, _⟩ := h.2 hn
  exact ⟨b2, off2, e2, h2⟩
theorem rd_blk {w : World} {g : Nat} {l : List Int} (h : Blk w g 3 (l.map (Value.int .i64)).toArray) : RdI .i64 w (some ⟨g, 0, none⟩) l.length l :=
  ⟨rfl, fun _ => ⟨g, 0, rfl, h.lt, fun j hj => by rw [Nat.zero_add]; exact tab_cell h hj⟩⟩
theorem lastLe_next (T : List Int) (n i : Nat) : lastLe T n (i + 1 - 1) = if T.getD i 0 ≤ (n : Int) then i else lastLe T n (i - 1) := by
  cases i with
  | zero => simp [lastLe]
  | succ k => simp only [Nat.add_sub_cancel]; rw [lastLe]
def IbS (T : List Int) (n m : Nat) (w : World) (kv iv : Value) (wr : World) : Prop :=
  ∃ i : Nat, i ≤ m ∧ iv = .int .i64 (i : Int) ∧ kv = .int .i64 ((lastLe T n (i - 1) : Nat) : Int) ∧ wr = w
set_option maxHeartbeats 800000 in
theorem ibsym_any (T : List Int) (A : Option Addr) (m c n : Nat) (w : World) (hr : RdI .i64 w A m T) (hm : m ≤ 1000) (hn : n ≤ 1000000) :
    Calls Tryd.prog 47 #[.slice A m c, .int .i64 (n : Int)] w fun e w' => e = .returned (.int .i64 ((lastLe T n (m - 1) : Nat) : Int)) ∧ w' = w := by
  have HR := Lib.hid hr
  clear hr
  go_enter Tryd.func47, Tryd.ntmps47
  go_wp2
  go_loopw [5, 6] (IbS T n m w) (fun _ i _ => m - (intOf i).toNat)
  case atStart => exact ⟨0, by omega, rfl, by simp [lastLe], rfl⟩
  case round =>
    obtain ⟨i, hi, rfl, rfl, rfl⟩ := hrel
    have HNx := Lib.hid (lastLe_next T n i)
    by_cases hlt : i < m
    · obtain ⟨b, off, rfl, hblt⟩ := rdq_some HR.out (by omega)
      have q1 := rdq_cell HR.out (Below.refl _ _) hlt
      have hltI : (i : Int) < (m : Int) := by omega
      generalize hz : T.getD i 0 = z at *
      have HZ := Lib.hid hz
      clear hz
      by_cases hle : z ≤ (n : Int)
      · rw [if_pos hle] at HNx
        go_wp2
        go_roundw
        case rel => exact ⟨i + 1, by omega, by go_num, by rw [HNx.out], rfl⟩
        case measure => simp [intOf]; omega
      · rw [if_neg hle] at HNx
        go_wp2
        go_roundw
        case rel => exact ⟨i + 1, by omega, by go_num, by rw [HNx.out], rfl⟩
        case measure => simp [intOf]; omega
    · obtain rfl : i = m := by omega
      go_wp2
      go_ret
      exact ⟨rfl, rfl⟩

/-! ### Pieces in memory -/
def rcell (q : Rp) : List Value := [.int .u8 q.b, .int .i64 q.n, .int .i64 q.d]
def PSrc (w : World) (A : Option Addr) (n c : Nat) (l : List Rp) : Prop := Src w 3 (.slice A n c) n (l.flatMap rcell)
theorem rcells_len (l : List Rp) : (l.flatMap rcell).length = l.length * 3 := by
  induction l with
  | nil => rfl
  | cons p l ih => simp only [List.flatMap_cons, List.length_append, ih, List.length_cons, rcell, List.length_nil]; omega
theorem rcells_get : ∀ (l : List Rp) (i : Nat) (p : Rp), l[i]? = some p → (l.flatMap rcell)[i * 3]? = some (.int .u8 p.b) ∧ (l.flatMap rcell)[i * 3 + 1]? = some (.int .i64 p.n) ∧ (l.flatMap rcell)[i * 3 + 2]? = some (.int .i64 p.d)
  | [], i, p, h => by simp at h
  | q :: l, 0, p, h => by
    obtain rfl : q = p := by simpa using h
    exact ⟨rfl, rfl, rfl⟩
  | q :: l, i + 1, p, h => by
    have ih := rcells_get l i p (by simpa using h)
    have e : ∀ k, ((q :: l).flatMap rcell)[(i + 1) * 3 + k]? = (l.flatMap rcell)[i * 3 + k]? := fun k => by
      rw [List.flatMap_cons, List.getElem?_append_right (by simp [rcell]; omega)]
      congr 1
      simp [rcell]; omega
    exact ⟨(e 0).trans ih.1, (e 1).trans ih.2.1, (e 2).trans ih.2.2⟩
theorem PSrc.len {w : World} {A : Option Addr} {n c : Nat} {l : List Rp} (h : PSrc w A n c l) : l.length = n := by
  obtain ⟨_, _, _, hl, _⟩ := h
  rw [rcells_len] at hl
  omega
theorem PSrc.below {w w' : World} {A : Option Addr} {n c : Nat} {l : List Rp} (h : PSrc w A n c l) (hb : Below w.heap.size w w') : PSrc w' A n c l := Src.below h hb
theorem PSrc.at_ {w : World} {A : Option Addr} {n c : Nat} {l : List Rp} (h : PSrc w A n c l) {i : Nat} (hi : i < n) :
    ∃ b off q, A = some ⟨b, off, none⟩ ∧ b < w.heap.size ∧ l[i]? = some q ∧ w.cell? ⟨b, off + i * 3, none⟩ = some (.int .u8 q.b) ∧ w.cell? ⟨b, off + i * 3 + 1, none⟩ = some (.int .i64 q.n) ∧ w.cell? ⟨b, off + i * 3 + 2, none⟩ = some (.int .i64 q.d) := by
  have hl := h.len
  obtain ⟨A', c', hv, _, hr⟩ := h
  injection hv with hA _ _
  subst hA
  obtain ⟨b, off, rfl, hb, hc⟩ := hr (by omega)
  have hq : l[i]? = some l[i] := List.getElem?_eq_getElem (by omega)
  obtain ⟨c0, c1, c2⟩ := rcells_get l i _ hq
  exact ⟨b, off, l[i], rfl, hb, hq, hc _ _ c0, hc _ _ c1, hc _ _ c2⟩
theorem PSrc.pc {w : World} {A : Option Addr} {n c : Nat} {l : List Pc} (h : PSrc w A n c (l.map Pc.raw)) {i : Nat} (hi : i < n) :
    ∃ b off p, A = some ⟨b, off, none⟩ ∧ b < w.heap.size ∧ l[i]? = some p ∧ w.cell? ⟨b, off + i * 3, none⟩ = some (.int .u8 (p.b : Int)) ∧ w.cell? ⟨b, off + i * 3 + 1, none⟩ = some (.int .i64 (p.n : Int)) ∧ w.cell? ⟨b, off + i * 3 + 2, none⟩ = some (.int .i64 (p.d : Int)) := by
  obtain ⟨b, off, q, e, hb, hq, c0, c1, c2⟩ := h.at_ hi
  rw [List.getElem?_map, Option.map_eq_some_iff] at hq
  obtain ⟨p, hp, rfl⟩ := hq
  exact ⟨b, off, p, e, hb, hp, c0, c1, c2⟩
theorem ib_symOf_lt {p : Pc} (h : Fine p) : symOf p < 286 := by
  unfold symOf
  have := lenK_le p.n
  split
  · rcases h with h | h <;> omega
  · omega

def IbA (l : List Pc) (g0 g1 : Nat) (w ws : World) (k : Nat) (iv : Value) (wr : World) : Prop :=
  ∃ i, iv = .int .i64 ((i : Nat) : Int) ∧ i + k = l.length ∧ wr.ownsRow w.heap.size 3 1 (.slice (some ⟨g0, 0, none⟩) 286 286) 286 ((freqL (l.take i)).map (Value.int .i64)) ∧ wr.ownsRow w.heap.size 3 1 (.slice (some ⟨g1, 0, none⟩) 30 30) 30 ((freqD (l.take i)).map (Value.int .i64)) ∧ Below w.heap.size w wr ∧
    (∀ k, k < ws.heap.size → k ≠ g0 → k ≠ g1 → wr.heap[k]? = ws.heap[k]?) ∧ ws.heap.size ≤ wr.heap.size
def IbWPost (l : List Pc) (w : World) (ev : Ending) (w' : World) : Prop :=
  ∃ g0 g1, ev = .returned (.tuple #[.slice (some ⟨g0, 0, none⟩) 286 286, .slice (some ⟨g1, 0, none⟩) 30 30]) ∧ w'.ownsRow w.heap.size 3 1 (.slice (some ⟨g0, 0, none⟩) 286 286) 286 ((freqL l).map (Value.int .i64)) ∧ w'.ownsRow w.heap.size 3 1 (.slice (some ⟨g1, 0, none⟩) 30 30) 30 ((freqD l).map (Value.int .i64)) ∧ Below w.heap.size w w'
theorem Blk.keep {w w' : World} {g : Nat} {t : TypeId} {cs : Array Value} (h : Blk w g t cs) (hk : w'.heap[g]? = w.heap[g]?) : Blk w' g t cs := by
  unfold Blk at *
  rw [hk]; exact h
set_option maxHeartbeats 3200000 in
set_option maxRecDepth 100000 in
theorem ibweights_any (l : List Pc) (A : Option Addr) (n c : Nat) (w : World) (hl : PSrc w A n c (l.map Pc.raw)) (hn : n ≤ 65536) (hf : ∀ p ∈ l, Fine p) :
    Calls Tryd.prog 48 #[.slice A n c] w (IbWPost l w) := by
  have HL := Lib.hid hl
  have HF := Lib.hid hf
  have hln : l.length = n := by have := hl.len; simpa using this
  clear hl hf
  go_enter Tryd.func48, Tryd.ntmps48
  go_wp2
  refine wp_region_fork 0 1 [(2, some 1), (1, none), (3, some 1)] [(0, none), (2, some 1), (3, some 1)] (TwoRows 286 30 w) (fun a v0 v1 => ((((a.put (some 9) v0).put (some 10) v1).put (some 4) v0).put (some 5) v1)) _ _ (by kernel_rfl) rfl rfl (by kernel_rfl) (by kernel_rfl) (by kernel_rfl) (by kernel_rfl) (by kernel_rfl) (by kernel_rfl) rfl rfl ?_ ?_ ?_
  · refine mk_ints rfl (.const (.int .i64 286)) (.const (.int .i64 286)) rfl w.heap.size 286 _ _ rfl rfl rfl rfl (by omega) (Nat.le_refl _) ?_
    intro w1 ho1 hg1
    refine wpList_nil ?_
    have B1 : Below w.heap.size w w1 := (Below.refl _ _).drew.grown hg1 (Nat.le_refl _) (fun k hk => by cases hk)
    refine thenN ?_
    simp only [List.map_cons, List.map_nil, List.getD_cons_succ, List.getD_cons_zero]
    (repeat (first | (refine qs_now (v := ?_) (by rfl) ?_ ?_; rotate_left 1; (· (intro w' hS; go_simp; (try (simp only [↓IntWalk.iteOmega]; go_simp)); (try simp (disch := omega) only [IntWalk.i64_in]); try with_reducible rfl)); simp only [Act.put, List.setIfInBounds_toArray, List.set_cons_zero, List.set_cons_succ]) | (refine qs_run (v := ?_) (by rfl) ?_ ?_; rotate_left 1; (· (intro j w' hS; go_simp; (try (simp only [↓IntWalk.iteOmega]; go_simp)); (try simp (disch := omega) only [IntWalk.i64_in]); try with_reducible rfl)); simp only [Act.put, List.setIfInBounds_toArray, List.set_cons_zero, List.set_cons_succ]) | (refine qs_mid (v := ?_) (by rfl) ?_ ?_; rotate_left 1; (· (intro j w' hj1 hj2 hS; go_simp; (try (simp only [↓IntWalk.iteOmega]; go_simp)); (try simp (disch := omega) only [IntWalk.i64_in]); try with_reducible rfl)); simp only [Act.put, List.setIfInBounds_toArray, List.set_cons_zero, List.set_cons_succ]) | (refine qs_skip (by rfl) ?_; simp only [Act.put, List.setIfInBounds_toArray, List.set_cons_zero, List.set_cons_succ])))
    refine qs_act ?_
    refine mk_ints rfl (.const (.int .i64 30)) (.const (.int .i64 30)) rfl w.heap.size 30 _ _ rfl rfl rfl rfl (by omega) B1.size ?_
    intro w2 ho2 hg2
    refine wpList_nil ?_
    refine ⟨trivial, ?_⟩
    (repeat (first | (refine qs_now (v := ?_) (by rfl) ?_ ?_; rotate_left 1; (· (intro w' hS; go_simp; (try (simp only [↓IntWalk.iteOmega]; go_simp)); (try simp (disch := omega) only [IntWalk.i64_in]); try with_reducible rfl)); simp only [Act.put, List.setIfInBounds_toArray, List.set_cons_zero, List.set_cons_succ]) | (refine qs_run (v := ?_) (by rfl) ?_ ?_; rotate_left 1; (· (intro j w' hS; go_simp; (try (simp only [↓IntWalk.iteOmega]; go_simp)); (try simp (disch := omega) only [IntWalk.i64_in]); try with_reducible rfl)); simp only [Act.put, List.setIfInBounds_toArray, List.set_cons_zero, List.set_cons_succ]) | (refine qs_mid (v := ?_) (by rfl) ?_ ?_; rotate_left 1; (· (intro j w' hj1 hj2 hS; go_simp; (try (simp only [↓IntWalk.iteOmega]; go_simp)); (try simp (disch := omega) only [IntWalk.i64_in]); try with_reducible rfl)); simp only [Act.put, List.setIfInBounds_toArray, List.set_cons_zero, List.set_cons_succ]) | (refine qs_skip (by rfl) ?_; simp only [Act.put, List.setIfInBounds_toArray, List.set_cons_zero, List.set_cons_succ])))
    refine qs_nil ?_
    exact ⟨rfl, _, _, rfl, two_rows ho1 ho2 hg2 B1⟩
  · refine mk_ints rfl (.const (.int .i64 30)) (.const (.int .i64 30)) rfl w.heap.size 30 _ _ rfl rfl rfl rfl (by omega) (Nat.le_refl _) ?_
    intro w1 ho1 hg1
    refine wpList_nil ?_
    have B1 : Below w.heap.size w w1 := (Below.refl _ _).drew.grown hg1 (Nat.le_refl _) (fun k hk => by cases hk)
    refine thenN ?_
    simp only [List.map_cons, List.map_nil, List.getD_cons_succ, List.getD_cons_zero]
    refine qs_act ?_
    refine mk_ints rfl (.const (.int .i64 286)) (.const (.int .i64 286)) rfl w.heap.size 286 _ _ rfl rfl rfl rfl (by omega) B1.size ?_
    intro w2 ho2 hg2
    refine wpList_nil ?_
    refine ⟨trivial, ?_⟩
    (repeat (first | (refine qs_now (v := ?_) (by rfl) ?_ ?_; rotate_left 1; (· (intro w' hS; go_simp; (try (simp only [↓IntWalk.iteOmega]; go_simp)); (try simp (disch := omega) only [IntWalk.i64_in]); try with_reducible rfl)); simp only [Act.put, List.setIfInBounds_toArray, List.set_cons_zero, List.set_cons_succ]) | (refine qs_run (v := ?_) (by rfl) ?_ ?_; rotate_left 1; (· (intro j w' hS; go_simp; (try (simp only [↓IntWalk.iteOmega]; go_simp)); (try simp (disch := omega) only [IntWalk.i64_in]); try with_reducible rfl)); simp only [Act.put, List.setIfInBounds_toArray, List.set_cons_zero, List.set_cons_succ]) | (refine qs_mid (v := ?_) (by rfl) ?_ ?_; rotate_left 1; (· (intro j w' hj1 hj2 hS; go_simp; (try (simp only [↓IntWalk.iteOmega]; go_simp)); (try simp (disch := omega) only [IntWalk.i64_in]); try with_reducible rfl)); simp only [Act.put, List.setIfInBounds_toArray, List.set_cons_zero, List.set_cons_succ]) | (refine qs_skip (by rfl) ?_; simp only [Act.put, List.setIfInBounds_toArray, List.set_cons_zero, List.set_cons_succ])))
    refine qs_nil ?_
    exact ⟨rfl, _, _, rfl, (two_rows ho1 ho2 hg2 B1).swap⟩
  · rintro v0 v1 w2 ⟨g0, g1, rfl, rfl, hne, ho0, ho1, hb⟩
    have HO1 := Lib.hid ho1
    have HB := Lib.hid hb
    have q1 := ho0.cellAt 256 (by omega)
    have q2 := ho0.frozenAt 256
    have hst := ho0.stored 256 (.int .i64 1)
    have HO0 := Lib.hid hst.1
    have HG := Lib.hid hst.2
    have q1' : w2.cell? ⟨g0, 256, none⟩ = some (.int .i64 0) := by rw [q1, List.getElem?_replicate]; rfl
    clear ho0 ho1 hb hst q1
    go_wp2_with fail
    obtain ⟨w3, hw3⟩ : ∃ w3, w3 = w2.setCell ⟨g0, 256, none⟩ (.int .i64 1) := ⟨_, rfl⟩
    rw [← hw3] at HO0 HG ⊢
    have HO1' := Lib.hid (HO1.out.kept HG.out (.inr (by simp [Value.ownBlock]; omega)))
    have HB3 := Lib.hid (HB.out.grown HG.out HB.out.size (fun k hk => by injection hk with hk; have := HO0.out.lt g0 rfl; omega))
    clear hw3 HO1 HB HG q1' q2
    refine (rlb_any w3).mono ?_
    rintro ev w4 ⟨gl, rfl, hlb, hgl, hb4⟩
    have L4 := Lib.hid hb4
    have HLB := Lib.hid hlb
    clear hlb hb4
    go_wp2_with fail
    refine (rdb_any w4).mono ?_
    rintro ev w5 ⟨gd, rfl, hdb, hgd, hb5⟩
    have HDB := Lib.hid hdb
    have HLB5 := Lib.hid (HLB.out.below hb5 HLB.out.lt)
    have L5 := Lib.hid (show Below w3.heap.size w3 w5 from L4.out.trans (hb5.mono L4.out.size))
    have P0 := Lib.hid (own_below HO0.out L5.out)
    have P1 := Lib.hid (own_below HO1'.out L5.out)
    have B5 := Lib.hid (show Below w.heap.size w w5 from HB3.out.trans (L5.out.mono HB3.out.size))
    have hg0 : g0 < w3.heap.size := (HO0.out.lt g0 rfl).2
    have hg1 : g1 < w3.heap.size := (HO1'.out.lt g1 rfl).2
    have hgd3 : w3.heap.size ≤ gd := by have := L4.out.size; omega
    clear hdb hb5 HLB HO0 HO1' HB3
    go_wp2
    go_loopg [8] n (IbA l g0 g1 w w5)
    case atStart =>
      refine ⟨0, rfl, by omega, ?_, ?_, B5.out, fun _ _ _ _ => rfl, Nat.le_refl _⟩
      · have h1 := P0.out
        rw [List.take_zero, ← freqL_nil, List.map_set, List.map_replicate]
        exact h1
      · rw [List.take_zero, ← freqD_nil, List.map_replicate]
        exact P1.out
    case round =>
      obtain ⟨i, rfl, hi, ho0, ho1, hb, hkp, hsz⟩ := hrel
      have HO0 := Lib.hid ho0
      have HO1 := Lib.hid ho1
      have HB := Lib.hid hb
      have HKp := Lib.hid hkp
      have RL := Lib.hid (rd_blk (HLB5.out.keep (hkp gl HLB5.out.lt (by omega) (by omega))))
      have RD := Lib.hid (rd_blk (HDB.out.keep (hkp gd HDB.out.lt (by omega) (by omega))))
      have RD' := Lib.hid (HDB.out.keep (hkp gd HDB.out.lt (by omega) (by omega)))
      have hl5 := HLB5.out.lt
      have hd5 := HDB.out.lt
      clear ho0 ho1 hb hkp
      by_cases hlt : i < n
      · have hltI : (i : Int) < (n : Int) := by omega
        obtain ⟨gp, off, p, rfl, hgpw, hp, p0', p1', p2'⟩ := HL.out.pc hlt
        have p0 := keepCell HB.out hgpw p0'
        have p1 := keepCell HB.out hgpw p1'
        have p2 := keepCell HB.out hgpw p2'
        have hg0w : w.heap.size ≤ g0 := (HO0.out.lt g0 rfl).1
        have hg1w : w.heap.size ≤ g1 := (HO1.out.lt g1 rfl).1
        have hfp := HF.out p (List.mem_of_getElem? hp)
        have hsy := ib_symOf_lt hfp
        have HTk := Lib.hid (take_getq hp)
        have hll : (l.take i).length ≤ 65536 := by rw [List.length_take]; omega
        by_cases h0 : p.n = 0
        · have hpb : p.b < 256 := by rcases hfp with h | h <;> omega
          have HSy := Lib.hid (show symOf p = p.b by unfold symOf; rw [if_pos h0])
          have q1 := HO0.out.cellAt p.b (by omega)
          have q2 := HO0.out.frozenAt p.b
          rw [ints_get (by rw [freqL_len]; omega)] at q1
          have hbd := freq_bd hll p.b
          have HFr := Lib.hid (freqL_step (l.take i) p hsy)
          rw [HSy.out] at HFr
          generalize (freqL (l.take i)).getD p.b 0 = z at q1 hbd HFr
          rw [h0, show ((0 : Nat) : Int) = 0 from rfl] at p1
          go_wp2
          have hst := HO0.out.stored p.b (.int .i64 (z + 1))
          have G1 := Lib.hid (HO1.out.kept hst.2 (.inr (by simp [Value.ownBlock]; omega)))
          have G0 := Lib.hid hst.1
          have GB := Lib.hid (HB.out.grown hst.2 HB.out.size (fun k hk => (HO0.out.lt k hk).1))
          have GS := hst.2.size
          have GK := hst.2.block
          clear hst
          go_roundg (gk - 1)
          case measure => omega
          case rel =>
            refine ⟨i + 1, by go_num, by omega, ?_, ?_, GB.out, fun k h1 h2 h3 => ?_, by omega⟩
            · rw [HTk.out, ← HFr.out, List.map_set]
              exact G0.out
            · rw [HTk.out, freqD_skip _ _ h0]
              exact G1.out
            · rw [GK k (by omega) (by simp [Value.ownBlock]; omega)]
              exact HKp.out k h1 h2 h3
        · have h0I : (((p.n : Nat) : Int) == 0) = false := by simp; omega
          have hfb : 3 ≤ p.n ∧ p.n ≤ 258 ∧ 1 ≤ p.d ∧ p.d ≤ 32768 := by
            rcases hfp with h | h
            · exact absurd h.1 h0
            · exact h
          obtain ⟨f1, f2, f3, f4⟩ := hfb
          have HSy := Lib.hid (show symOf p = 257 + lenK p.n by unfold symOf; rw [if_neg h0])
          have hs1 : 257 + lenK p.n < 286 := by have := lenK_le p.n; omega
          have hs2 : distK p.d < 30 := by have := distK_le p.d; omega
          have HFr := Lib.hid (freqL_step (l.take i) p hsy)
          have HFd := Lib.hid (freqD_step (l.take i) p h0 hs2)
          rw [HSy.out] at HFr
          have hlen := ibsym_any lbases _ 29 29 p.n wr RL.out (by omega) (by omega)
          rw [show lastLe lbases p.n (29 - 1) = lenK p.n from rfl] at hlen
          have hdis := fun w' (h : Blk w' gd 3 (dbases.map (Value.int .i64)).toArray) => ibsym_any dbases _ 30 30 p.d w' (rd_blk h) (by omega) (by omega)
          have HDis := Lib.hid hdis
          clear hdis
          rw [show lastLe dbases p.d (30 - 1) = distK p.d from rfl] at HDis
          have hbd := freq_bd hll (257 + lenK p.n)
          have hbe := freqD_bd hll (distK p.d)
          obtain ⟨kk, hkk⟩ : ∃ kk, kk = lenK p.n := ⟨_, rfl⟩
          rw [← hkk] at hlen hs1 HFr hbd
          clear hkk HSy hsy
          go_wp2_with fail
          refine hlen.mono ?_
          clear hlen
          rintro ev w1 ⟨rfl, rfl⟩
          have q1 := HO0.out.cellAt (257 + kk) (by omega)
          have q2 := HO0.out.frozenAt (257 + kk)
          rw [ints_get (by rw [freqL_len]; omega)] at q1
          generalize (freqL (l.take i)).getD (257 + kk) 0 = z at q1 hbd HFr
          have eI : (257 : Int) + (kk : Int) = ((257 + kk : Nat) : Int) := by omega
          generalize 257 + kk = sL at *
          have hst := HO0.out.stored sL (.int .i64 (z + 1))
          obtain ⟨w2, hw2⟩ : ∃ w2, w2 = w1.setCell ⟨g0, sL, none⟩ (.int .i64 (z + 1)) := ⟨_, rfl⟩
          rw [← hw2] at hst
          have D0 := Lib.hid hst.1
          have D1 := Lib.hid (HO1.out.kept hst.2 (.inr (by simp [Value.ownBlock]; omega)))
          have BD := Lib.hid (HB.out.grown hst.2 HB.out.size (fun k hk => (HO0.out.lt k hk).1))
          have KD := Lib.hid hst.2
          have DD := Lib.hid (RD'.out.grown hst.2 (by simp [Value.ownBlock]; omega))
          have e2 := keepCell BD.out hgpw p2'
          rw [hw2] at e2
          clear hst
          go_wp2_with fail
          rw [← hw2]
          clear hw2 e2 q1 q2
          refine (HDis.out w2 DD.out).mono ?_
          rintro ev w3 ⟨rfl, rfl⟩
          generalize distK p.d = sD at hs2 HFd hbe
          have q1 := D1.out.cellAt sD (by omega)
          have q2 := D1.out.frozenAt sD
          rw [ints_get (by rw [freqD_len]; omega)] at q1
          generalize (freqD (l.take i)).getD sD 0 = y at q1 hbe HFd
          go_wp2
          have hst := D1.out.stored sD (.int .i64 (y + 1))
          have G0 := Lib.hid (D0.out.kept hst.2 (.inr (by simp [Value.ownBlock]; omega)))
          have G1 := Lib.hid hst.1
          have GB := Lib.hid (BD.out.grown hst.2 BD.out.size (fun k hk => (D1.out.lt k hk).1))
          have GS := hst.2.size
          have GK := hst.2.block
          clear hst
          go_roundg (gk - 1)
          case measure => omega
          case rel =>
            refine ⟨i + 1, by go_num, by omega, ?_, ?_, GB.out, fun k h1 h2 h3 => ?_, by have := KD.out.size; omega⟩
            · rw [HTk.out, ← HFr.out, List.map_set]
              exact G0.out
            · rw [HTk.out, ← HFd.out, List.map_set]
              exact G1.out
            · have := KD.out.size
              rw [GK k (by omega) (by simp [Value.ownBlock]; omega), KD.out.block k (by omega) (by simp [Value.ownBlock]; omega)]
              exact HKp.out k h1 h2 h3
      · obtain rfl : i = n := by omega
        have h0 := HO0.out
        have h1 := HO1.out
        rw [List.take_of_length_le (by omega)] at h0 h1
        have K0 := Lib.hid h0
        have K1 := Lib.hid h1
        clear h0 h1
        go_wp2
        go_ret2
        exact ⟨g0, g1, rfl, K0.out, K1.out, HB.out⟩
end Go.Proofs.YtlhaehefhhcgaaaDoor
