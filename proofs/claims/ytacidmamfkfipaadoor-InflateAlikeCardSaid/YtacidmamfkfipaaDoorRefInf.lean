/-
  The document's Inflate.
-/
import Derived.Test.YtacidmamfkfipaaDoorRefDyn
namespace Go.Proofs.YtacidmamfkfipaaDoor
open Go.RowKit
set_option linter.unusedVariables false

theorem bit_at {bs : List Int} (hB : Bytes bs) {i k : Nat} (hi : i < bs.length) (hk : k < 8) : (bitsOf bs).getD (8 * i + k) 0 = bs.getD i 0 / 2 ^ k % 2 := by
  rw [bitsOf_at (by omega)]
  unfold bitsAt
  rw [Nat.pow_add, ← Nat.div_div_eq_div_mul, ← pow256, ← leNum_drop bs hB i]
  have hd : bs.drop i = bs.getD i 0 :: bs.drop (i + 1) := by
    rw [List.drop_eq_getElem_cons hi]
    simp [hi]
  have hb : 0 ≤ bs.getD i 0 ∧ bs.getD i 0 < 256 := by
    refine hB _ ?_
    rw [List.getD_eq_getElem?_getD, List.getElem?_eq_getElem hi]
    exact List.getElem_mem _
  rw [hd]
  generalize bs.getD i 0 = x at *
  obtain ⟨y, rfl⟩ : ∃ y : Nat, x = (y : Int) := ⟨x.toNat, by omega⟩
  simp only [leNum, Int.toNat_natCast]
  generalize leNum (bs.drop (i + 1)) = R
  have h1 : (y + 256 * R) / 2 ^ k % 2 = y / 2 ^ k % 2 := by
    have e : 256 * R = 2 ^ k * (2 ^ (8 - k) * R) := by rw [← Nat.mul_assoc, ← Nat.pow_add, show k + (8 - k) = 8 by omega]
    rw [e, Nat.add_mul_div_left _ _ (Nat.two_pow_pos k), show 8 - k = (7 - k) + 1 by omega, Nat.pow_succ, Nat.mul_comm (2 ^ (7 - k)) 2, Nat.mul_assoc, Nat.add_mul_mod_self_left]
  rw [Nat.pow_one, h1]
  push_cast
  rfl
theorem src_o (W : World) (t : TypeId) (y : Value) : Src (W.alloc (.cells #[y] t)) 1 (.slice (some ⟨W.heap.size, 0, none⟩) 1 1) 1 [y] :=
  ⟨_, 1, rfl, rfl, fun _ => ⟨W.heap.size, 0, rfl, by simp, fun j u hu => by rw [Nat.zero_add, (Blk.made W t #[y]).cellq]; simpa using hu⟩⟩
theorem and_one6 (z : Int) (q : Nat) (hz : 0 ≤ z ∧ z < 256) : bits .and .i64 (wrap64 (z / 2 ^ q)) 1 = z / 2 ^ q % 2 := by
  obtain ⟨a, rfl⟩ : ∃ a : Nat, z = a := ⟨z.toNat, by omega⟩
  have e3 : (a : Int) / 2 ^ q = ((a / 2 ^ q : Nat) : Int) := by push_cast; rfl
  have hle : a / 2 ^ q ≤ a := Nat.div_le_self _ _
  rw [e3]
  generalize a / 2 ^ q = y at *
  have h := bits_mask .i64 63 (by decide) (fun n h0 h1 => IntWalk.i64_in n (by omega)) 1 (by omega) (y : Int) (by omega) (by omega)
  rw [IntWalk.wrap64_in (y : Int) ⟨by omega, by omega⟩]
  simpa using h
theorem row_ne {w : World} {s : Nat} {t e : TypeId} {cs : Array Value} {base n : Nat} {v : Value} {xs : List Value} (hb : Blk w s t cs) (h : w.ownsRow base e 1 v n xs) (ht : t ≠ e) : v.ownBlock ≠ some s := by
  intro hv
  rcases h.2 with ⟨rfl, _⟩ | ⟨g, cap, cur, rfl, a1, a2, _⟩
  · cases hv
  · injection hv with hv
    subst hv
    exact blk_ne hb (show Blk w g e cur from a2) ht rfl
def RBld (bs : List Int) (s : Nat) (most : Int) (i : Nat) (w : World) (k : Nat) (kv : Value) (wr : World) : Prop :=
  ∃ (j m : Nat) (A : Option Addr) (c : Nat), j + k = 8 ∧ kv = .int .i64 (j : Int) ∧ m = 8 * i + j ∧ Blk wr s 64 #[.slice A m c, .int .i64 0, .slice none 0 0, .int .i64 most, .int .i64 0] ∧
    wr.ownsRow w.heap.size 3 1 (.slice A m c) m (((bitsOf bs).take m).map (Value.int .i64)) ∧ Below w.heap.size w wr
def RBlo (bs : List Int) (s : Nat) (most : Int) (n : Nat) (w : World) (k : Nat) (iv : Value) (wr : World) : Prop :=
  ∃ (i m : Nat) (A : Option Addr) (c : Nat), i + k = n ∧ iv = .int .i64 (i : Int) ∧ m = 8 * i ∧ Blk wr s 64 #[.slice A m c, .int .i64 0, .slice none 0 0, .int .i64 most, .int .i64 0] ∧
    wr.ownsRow w.heap.size 3 1 (.slice A m c) m (((bitsOf bs).take m).map (Value.int .i64)) ∧ Below w.heap.size w wr
theorem ref_start {w : World} {s base : Nat} {bs : List Int} {m c : Nat} {A : Option Addr} {mo : Int} (hm : m = 8 * bs.length) (hk : Blk w s 64 #[.slice A m c, .int .i64 0, .slice none 0 0, .int .i64 mo, .int .i64 0])
    (ho : w.ownsRow base 3 1 (.slice A m c) m (((bitsOf bs).take m).map (Value.int .i64))) : RefOk w w.heap.size s bs 0 [] mo 0 := by
  rw [List.take_of_length_le (by rw [bitsOf_len]; omega)] at ho
  subst hm
  refine ⟨by omega, hk.lt, Nat.le_refl _, (fun z hz => by cases hz), A, c, .slice none 0 0, hk, RdI.of_own ho, ?_, ⟨rfl, .inl ⟨rfl, rfl⟩⟩, fun j hj => by cases hj⟩
  rintro b off rfl
  exact ⟨(ho.lt b rfl).2, fun e => row_ne hk ho (by decide) (by rw [← e]; rfl)⟩
def RInfO (base s : Nat) (bs : List Int) (most : Nat) (T : Res (List Int)) (w : World) (k : Nat) (lv : Value) (wr : World) : Prop :=
  ∃ out p e la, lv = .int .i64 ((la : Nat) : Int) ∧ RefOk wr base s bs p out (most : Int) e ∧ StStep w wr base s s ∧ out.length ≤ most ∧
    ((e = 0 ∧ la = 0 ∧ T = blocksR (bitsOf bs) most k out p ∧ 8 * bs.length + 1 ≤ k + p) ∨ (e = 0 ∧ la ≠ 0 ∧ T = .ok out p) ∨ (∃ b, e = errOf b ∧ T = .bad b))

theorem rtook_ok {e : Int} {bt : List Int} {p n v p' : Nat} (h : RTook e (numR bt p n) v p' 0) : e = 0 ∧ p' = p + n := by
  rcases h with ⟨rfl, h⟩ | ⟨hne, _, he⟩
  · rcases took_or h with ⟨h1, _⟩ | ⟨b, h1, _, h2⟩
    · exact ⟨rfl, (numR_ok h1).1⟩
    · rw [if_pos rfl] at h2
      cases b <;> cases h2
  · exact absurd he.symm hne
set_option maxHeartbeats 1600000 in
set_option maxRecDepth 100000 in
theorem rinflate_any (bs : List Int) (A : Option Addr) (n cap : Nat) (most : Int) (w : World) (h : RdI .u8 w A n bs) (hB : Bytes bs) (hn : n ≤ 100000000) :
    Calls Tryd.prog 11 #[.slice A n cap, .int .i64 most] w (InfPost bs most w) := by
  have HRd := Lib.hid h
  have HBy := Lib.hid hB
  have hbl : bs.length = n := h.1
  have HBl := Lib.hid hbl
  have hbl9 : bs.length ≤ 1000000000 := by omega
  clear h hB hbl
  by_cases hm0 : most < 0
  · go_enter Tryd.func11, Tryd.ntmps11
    go_wp2
    go_ret3
    exact ⟨Below.refl _ _, by rw [if_pos (.inl hm0)]; rfl⟩
  by_cases hm1 : 65536 < most
  · have d0 : decide (most < 0) = false := by simpa using hm0
    go_enter Tryd.func11, Tryd.ntmps11
    go_wp2
    go_ret3
    exact ⟨Below.refl _ _, by rw [if_pos (.inr hm1)]; rfl⟩
  obtain ⟨mo, rfl⟩ : ∃ mo : Nat, most = (mo : Int) := ⟨most.toNat, by omega⟩
  have hmo : mo ≤ 65536 := by omega
  have HP := Lib.hid (show ∀ ev w', InfPost bs (mo : Int) w ev w' = (Below w.heap.size w w' ∧ InfAgree (inflateR (bitsOf bs) mo) w ev w') from fun ev w' => by unfold InfPost; rw [if_neg (by omega), Int.toNat_natCast])
  have d0 : decide ((mo : Int) < 0) = false := by simp
  have d1 : decide ((65536 : Int) < (mo : Int)) = false := by simpa using hm1
  clear hm0 hm1
  obtain ⟨T, hT⟩ : ∃ T, T = inflateR (bitsOf bs) mo := ⟨_, rfl⟩
  rw [← hT] at HP
  have HT := Lib.hid hT
  clear hT
  go_enter Tryd.func11, Tryd.ntmps11
  go_wp2
  obtain ⟨w2, hw2⟩ : ∃ w2, w2 = w.alloc (.cells #[.slice none 0 0, .int .i64 0, .slice none 0 0, .int .i64 (mo : Int), .int .i64 0] 64) := ⟨_, rfl⟩
  rw [← hw2]
  have L2 := Lib.hid (show Below w.heap.size w w2 by rw [hw2]; exact (Below.refl _ _).alloc (Nat.le_refl _) _)
  have K2 := Lib.hid (show Blk w2 w.heap.size 64 #[.slice none 0 0, .int .i64 0, .slice none 0 0, .int .i64 (mo : Int), .int .i64 0] by rw [hw2]; exact Blk.made _ _ _)
  clear hw2
  go_loopg [8] n (RBlo bs w.heap.size (mo : Int) n w)
  case atStart => exact ⟨0, 0, none, 0, by omega, rfl, rfl, K2.out, ⟨rfl, .inl ⟨rfl, rfl⟩⟩, L2.out⟩
  case round =>
    clear K2 L2
    obtain ⟨i, m, A1, c1, hi, rfl, hm, hk, ho, hb⟩ := hrel
    obtain ⟨go, hgo⟩ : ∃ go, go = gk := ⟨_, rfl⟩
    rw [← hgo] at hi
    have K := Lib.hid hk
    have O := Lib.hid ho
    have B := Lib.hid hb
    have HM := Lib.hid hm
    clear hk ho hb hm
    by_cases hlt : i < n
    · have hltI : (i : Int) < n := by omega
      go_wp2
      go_loopg [9] 8 (RBld bs w.heap.size (mo : Int) i w)
      case atStart => exact ⟨0, m, A1, c1, by omega, rfl, by have := HM.out; omega, K.out, O.out, B.out⟩
      case round =>
        clear K O B HM
        obtain ⟨j, m, A1, c1, hj, rfl, hm, hk, ho, hb⟩ := hrel
        have K := Lib.hid hk
        have O := Lib.hid ho
        have B := Lib.hid hb
        have hw := hk.lt
        have HM := Lib.hid hm
        clear hk ho hb hm
        by_cases hj8 : j < 8
        · have hj8I : (j : Int) < 8 := by omega
          have hil : i < bs.length := by have := HBl.out; omega
          have HBit := Lib.hid (bit_at HBy.out hil hj8)
          have HTk := Lib.hid (take_snoc (bitsOf bs) m (by rw [bitsOf_len]; have := HM.out; omega))
          have hm9 : m ≤ 800000000 := by have := HM.out; omega
          have hxb : 0 ≤ bs.getD i 0 ∧ bs.getD i 0 < 256 := by
            refine HBy.out _ ?_
            rw [List.getD_eq_getElem?_getD, List.getElem?_eq_getElem hil]
            exact List.getElem_mem _
          obtain ⟨bb, ob, hAb, hbb, hcb⟩ := HRd.out.2 (by omega)
          have cb := (World.cell?_of_block (a := ⟨bb, ob + i, none⟩) (B.out.block bb hbb)).trans (hcb i hlt)
          subst hAb
          have HC := Lib.hid (hcb i hlt)
          have c0 := K.out.cell (i := 0) (v := .slice A1 m c1) rfl
          clear hcb
          generalize bs.getD i 0 = xb at *
          go_wp2
          refine wp_region_qs (fun jj w' => (jj ≤ 2 → w'.cell? ⟨w.heap.size, 0, none⟩ = some (.slice A1 m c1)) ∧ (jj ≤ 1 → w'.cell? ⟨w.heap.size, 0, none⟩ = some (.slice A1 m c1)) ∧ (jj ≤ 2 → w'.cell? ⟨bb, ob + i, none⟩ = some (.int .u8 xb))) [(0, some 2), (1, some 2), (2, some 2), (3, some 2), (4, some 1), (5, some 2), (6, some 2), (7, some 2), (8, some 2), (9, some 2), (10, some 2), (11, some 2), (12, some 2), (13, some 1), (14, none), (15, none), (16, some 3), (17, some 2), (18, none)] (by kernel_rfl) (by kernel_rfl) (by kernel_rfl) (by kernel_rfl) (by kernel_rfl) (fun _ _ _ _ _ h => h) ⟨fun _ => c0, fun _ => c0, fun _ => cb⟩ ?_
          simp only [List.map_cons, List.map_nil, List.getD_cons_succ, List.getD_cons_zero]
          (repeat (first | (refine qs_now (v := ?_) (by rfl) ?_ ?_; rotate_left 1; (· (intro w' hS; go_simp; (try (simp only [↓IntWalk.iteOmega]; go_simp)); (try simp (disch := omega) only [IntWalk.i64_in]); try with_reducible rfl)); simp only [Act.put, List.setIfInBounds_toArray, List.set_cons_zero, List.set_cons_succ]) | (refine qs_run (v := ?_) (by rfl) ?_ ?_; rotate_left 1; (· (intro j w' hS; go_simp; (try (simp only [↓IntWalk.iteOmega]; go_simp)); (try simp (disch := omega) only [IntWalk.i64_in]); try with_reducible rfl)); simp only [Act.put, List.setIfInBounds_toArray, List.set_cons_zero, List.set_cons_succ]) | (refine qs_mid (v := ?_) (by rfl) ?_ ?_; rotate_left 1; (· (intro j w' hj1 hj2 hS; go_simp; (try (simp only [↓IntWalk.iteOmega]; go_simp)); (try simp (disch := omega) only [IntWalk.i64_in]); try with_reducible rfl)); simp only [Act.put, List.setIfInBounds_toArray, List.set_cons_zero, List.set_cons_succ]) | (refine qs_skip (by rfl) ?_; simp only [Act.put, List.setIfInBounds_toArray, List.set_cons_zero, List.set_cons_succ])))
          refine qs_act ?_
          go_wp2
          rw [show min j 8 = j by omega, and_one6 xb j hxb]
          obtain ⟨w8, hw8⟩ : ∃ w8, w8 = (wr.alloc (.cells #[.int .i64 (xb / 2 ^ j % 2)] 3)).drew := ⟨_, rfl⟩
          rw [← hw8]
          have L8 := Lib.hid (show Below wr.heap.size wr w8 by rw [hw8]; exact ((Below.refl _ _).alloc (Nat.le_refl _) _).drew)
          have S8 := Lib.hid (show Src w8 1 (.slice (some ⟨wr.heap.size, 0, none⟩) 1 1) 1 [.int .i64 (xb / 2 ^ j % 2)] by rw [hw8]; exact src_o _ _ _)
          clear hw8
          have O8 := Lib.hid (own_below O.out L8.out)
          have K8 := Lib.hid (K.out.below L8.out K.out.lt)
          have c8 := K8.out.cell (i := 0) (v := .slice A1 m c1) rfl
          refine ⟨⟨fun _ => c8, fun _ => c8, fun h => (World.cell?_of_block (a := ⟨bb, ob + i, none⟩) (L8.out.block bb (by omega))).trans cb⟩, ?_⟩
          (repeat (first | (refine qs_now (v := ?_) (by rfl) ?_ ?_; rotate_left 1; (· (intro w' hS; go_simp; (try (simp only [↓IntWalk.iteOmega]; go_simp)); (try simp (disch := omega) only [IntWalk.i64_in]); try with_reducible rfl)); simp only [Act.put, List.setIfInBounds_toArray, List.set_cons_zero, List.set_cons_succ]) | (refine qs_run (v := ?_) (by rfl) ?_ ?_; rotate_left 1; (· (intro j w' hS; go_simp; (try (simp only [↓IntWalk.iteOmega]; go_simp)); (try simp (disch := omega) only [IntWalk.i64_in]); try with_reducible rfl)); simp only [Act.put, List.setIfInBounds_toArray, List.set_cons_zero, List.set_cons_succ]) | (refine qs_mid (v := ?_) (by rfl) ?_ ?_; rotate_left 1; (· (intro j w' hj1 hj2 hS; go_simp; (try (simp only [↓IntWalk.iteOmega]; go_simp)); (try simp (disch := omega) only [IntWalk.i64_in]); try with_reducible rfl)); simp only [Act.put, List.setIfInBounds_toArray, List.set_cons_zero, List.set_cons_succ]) | (refine qs_skip (by rfl) ?_; simp only [Act.put, List.setIfInBounds_toArray, List.set_cons_zero, List.set_cons_succ])))
          refine qs_act ?_
          refine app_src rfl (.tmp 37) (.tmp 47) 45 rfl w.heap.size 3 _ 1 8 Tryd.underlying45 infoInt rfl (by omega) _ m _ rfl O8.out _ 1 _ rfl S8.out (by simp [Value.oneCell']) (by omega) (by omega) (by have := B.out.size; have := L8.out.size; omega) ?_
          intro v9 w9 ho9 hg9 hor9
          obtain ⟨A9, c9, hv9, _⟩ := own_slice ho9
          subst hv9
          have G9 := Lib.hid hg9
          have O9 := Lib.hid ho9
          have hsz9 : wr.heap.size ≤ w8.heap.size := L8.out.size
          have hne9 : some w.heap.size ≠ (Value.slice A1 m c1).ownBlock := fun e => row_ne K8.out O8.out (by decide) e.symm
          have K9 := Lib.hid (K8.out.grown hg9 hne9)
          have f9 := K9.out.free 0
          have d9 := K9.out.cell (i := 0) rfl
          have B9 := Lib.hid ((below_chain B.out L8.out).grown hg9 (by have := B.out.size; omega) (fun k hk => (O8.out.lt k hk).1))
          have hbb9 : w9.cell? ⟨bb, ob + i, none⟩ = some (.int .u8 xb) := (World.cell?_of_block (a := ⟨bb, ob + i, none⟩) (B9.out.block bb hbb)).trans HC.out
          clear ho9 hg9 hor9
          refine wpList_nil ?_
          refine ⟨⟨fun _ => d9, fun h => absurd h (by omega), fun _ => hbb9⟩, ?_⟩
          (repeat (first | (refine qs_now (v := ?_) (by rfl) ?_ ?_; rotate_left 1; (· (intro w' hS; go_simp; (try (simp only [↓IntWalk.iteOmega]; go_simp)); (try simp (disch := omega) only [IntWalk.i64_in]); try with_reducible rfl)); simp only [Act.put, List.setIfInBounds_toArray, List.set_cons_zero, List.set_cons_succ]) | (refine qs_run (v := ?_) (by rfl) ?_ ?_; rotate_left 1; (· (intro j w' hS; go_simp; (try (simp only [↓IntWalk.iteOmega]; go_simp)); (try simp (disch := omega) only [IntWalk.i64_in]); try with_reducible rfl)); simp only [Act.put, List.setIfInBounds_toArray, List.set_cons_zero, List.set_cons_succ]) | (refine qs_mid (v := ?_) (by rfl) ?_ ?_; rotate_left 1; (· (intro j w' hj1 hj2 hS; go_simp; (try (simp only [↓IntWalk.iteOmega]; go_simp)); (try simp (disch := omega) only [IntWalk.i64_in]); try with_reducible rfl)); simp only [Act.put, List.setIfInBounds_toArray, List.set_cons_zero, List.set_cons_succ]) | (refine qs_skip (by rfl) ?_; simp only [Act.put, List.setIfInBounds_toArray, List.set_cons_zero, List.set_cons_succ])))
          refine qs_act ?_
          go_wp2
          refine ⟨⟨fun h => absurd h (by omega), fun h => absurd h (by omega), fun h => absurd h (by omega)⟩, ?_⟩
          refine qs_nil ?_
          go_wp2
          go_roundg (gk - 1)
          case measure => omega
          case rel =>
            refine ⟨j + 1, m + 1, A9, c9, by omega, by go_num, by have := HM.out; omega, ?_, ?_, ?_⟩
            · have := K9.out.put 0 (.slice A9 (m + 1) c9)
              simpa using this
            · have h1 := O9.out.kept (grown_put w9 ⟨w.heap.size, 0, none⟩ (.slice A9 (m + 1) c9)) (.inr (row_ne K9.out O9.out (by decide)))
              rw [HTk.out, List.map_append, HM.out, HBit.out, ← HM.out]
              exact h1
            · exact bl_g B9.out (grown_put w9 ⟨w.heap.size, 0, none⟩ (.slice A9 (m + 1) c9)) (Nat.le_refl _)
        · obtain rfl : j = 8 := by omega
          go_wp2
          go_roundg (go - 1)
          case measure => omega
          case rel => exact ⟨i + 1, m, A1, c1, by omega, by go_num, by have := HM.out; omega, K.out, O.out, B.out⟩
    · obtain rfl : i = n := by omega
      have hm8 : m = 8 * bs.length := by rw [HM.out, HBl.out]
      have HR := Lib.hid (ref_start hm8 K.out O.out)
      have hws := B.out.size
      have hsr := K.out.lt
      obtain ⟨s, hsE⟩ : ∃ s, s = w.heap.size := ⟨_, rfl⟩
      obtain ⟨base, hbE⟩ : ∃ base, base = wr.heap.size := ⟨_, rfl⟩
      have FIN := Lib.hid (show ∀ w', StStep wr w' base s s → Below w.heap.size w w' from fun w' hst => by
        have hb := B.out
        exact ⟨hst.os.trans hb.os, hst.tape.trans hb.tape, hst.output.trans hb.output, Nat.le_trans hb.size hst.size, fun k hk => (hst.low k (by omega) (by omega) (by omega)).trans (hb.block k hk)⟩)
      rw [← hsE, ← hbE] at HR
      rw [← hsE]
      have hsb : w.heap.size ≤ base := by omega
      clear K O B HM hm8 hsE hbE hws hsr
      go_wp2
      go_loopg [10] (8 * bs.length + 1) (RInfO base s bs mo T wr)
      case atStart => exact ⟨[], 0, 0, 0, rfl, HR.out, StStep.refl _ _ _ _, by simp, .inl ⟨rfl, rfl, by rw [HT.out]; unfold inflateR; rw [bitsOf_len], by omega⟩⟩
      case round =>
        clear HR HT
        obtain ⟨out, p, e, la, rfl, hs, st, hol, hT⟩ := hrel
        have H := Lib.hid hs
        have S := Lib.hid st
        have c4 := hs.c4
        have hp := hs.1
        have HT := Lib.hid hT
        clear hs st hT
        rcases HT.out with ⟨rfl, rfl, hT, hk⟩ | ⟨rfl, hla, hT⟩ | ⟨b, rfl, hT⟩
        ·
          obtain ⟨f, rfl⟩ : ∃ f, gk = f + 1 := ⟨gk - 1, by omega⟩
          have HT' := Lib.hid (show T = (numR (bitsOf bs) p 1).bind fun last p => (numR (bitsOf bs) p 2).bind fun kind p =>
            ((if kind = 0 then storedR (bitsOf bs) mo out p else if kind = 1 then codedR (bitsOf bs) mo fixedL fixedD out p else if kind = 2 then dynamicR (bitsOf bs) mo out p else .bad false : Res (List Int))).bind fun out p =>
              if last = 0 then blocksR (bitsOf bs) mo f out p else .ok out p from hT)
          clear hT HT
          go_wp2_with fail
          refine (rnumber_any base s bs p out (mo : Int) 0 1 wr H.out HBy.out hbl9 (by omega)).mono ?_
          rintro ev w3 ⟨la, p3, e3, rfl, hx3, hs3, st3, tk3, -⟩
          have H3 := Lib.hid hs3
          have S3 := Lib.hid (S.out.trans st3)
          have T3 := Lib.hid (rtook_next (fun b => numR_bad) (.inr ⟨rfl, HT'.out⟩) tk3)
          have hla2 : la < 2 := hx3
          have TK3 := Lib.hid tk3
          clear hs3 st3 tk3 H S HT' c4 hx3
          go_wp2_with fail
          refine (rnumber_any base s bs p3 out (mo : Int) e3 2 w3 H3.out HBy.out hbl9 (by omega)).mono ?_
          rintro ev w4 ⟨kd, p4, e4, rfl, hx4, hs4, st4, tk4, -⟩
          have H4 := Lib.hid hs4
          have S4 := Lib.hid (S3.out.trans st4)
          have T4 := Lib.hid (rtook_next (fun b => numR_bad) T3.out tk4)
          have hkd4 : kd < 4 := hx4
          have c44 := hs4.c4
          have h34 := hs4.2.2.1
          by_cases he : e4 = 0
          · have hp4 : p4 = p + 1 + 2 := by
              subst he
              obtain ⟨z3, a1⟩ := rtook_ok tk4
              have t3 := TK3.out
              rw [z3] at t3
              have a2 := (rtook_ok t3).2
              omega
            have HT' := Lib.hid ((T4.out.resolve_left (fun h => by omega)).2)
            subst he hp4
            clear hs4 st4 tk4 H3 S3 T3 T4 TK3 hx4
            obtain rfl | rfl | rfl | rfl : kd = 0 ∨ kd = 1 ∨ kd = 2 ∨ kd = 3 := by omega
            · rw [if_pos rfl] at HT'
              go_wp2_with fail
              refine (rstored_any base s bs (p + 1 + 2) out mo w4 H4.out HBy.out hbl9 hmo hol).mono ?_
              rintro ev w6 ⟨p6, o6, e6, rfl, hs6, st6, ho6, ag6⟩
              have H6 := Lib.hid hs6
              have S6 := Lib.hid (S4.out.trans st6)
              have TF := Lib.hid (after_block (la := la) ag6 HT'.out (fun a q h => storedR_mono h) (show 8 * bs.length + 1 ≤ f + 1 + p by omega))
              clear hs6 st6 ag6 H4 S4 c44 HT'
              go_wp2
              go_roundg f
              case measure => omega
              case rel => exact ⟨o6, p6, e6, la, rfl, H6.out, S6.out, ho6, TF.out⟩
            · rw [if_neg (by decide), if_pos rfl] at HT'
              go_wp2_with fail
              refine (rfixed_any w4).mono ?_
              rintro ev w5 ⟨Al, Ad, cl, cd, rfl, hrl, hrd, hb5⟩
              have RL := Lib.hid hrl
              have RD := Lib.hid hrd
              have H5 := Lib.hid (H4.out.below hb5)
              have S5 := Lib.hid (S4.out.trans (StStep.of_below hb5 h34))
              clear hrl hrd hb5 H4 S4 c44
              go_wp2_with fail
              refine (rcoded_any base s bs fixedL fixedD (p + 1 + 2) out mo Al Ad 288 32 cl cd w5 H5.out RL.out RD.out (by omega) (by omega) HBy.out hbl9 hmo hol).mono ?_
              have H4 := H5
              have S4 := S5
              have c44 := H5.out.c4
              rintro ev w6 ⟨p6, o6, e6, rfl, hs6, st6, ho6, ag6⟩
              have H6 := Lib.hid hs6
              have S6 := Lib.hid (S4.out.trans st6)
              have TF := Lib.hid (after_block (la := la) ag6 HT'.out (fun a q h => codedR_mono h) (show 8 * bs.length + 1 ≤ f + 1 + p by omega))
              clear hs6 st6 ag6 H4 S4 c44 HT'
              go_wp2
              go_roundg f
              case measure => omega
              case rel => exact ⟨o6, p6, e6, la, rfl, H6.out, S6.out, ho6, TF.out⟩
            · rw [if_neg (by decide), if_neg (by decide), if_pos rfl] at HT'
              go_wp2_with fail
              refine (rdynamic_any base s bs (p + 1 + 2) out mo w4 H4.out HBy.out hbl9 hmo hol).mono ?_
              rintro ev w6 ⟨p6, o6, e6, rfl, hs6, st6, ho6, ag6⟩
              have H6 := Lib.hid hs6
              have S6 := Lib.hid (S4.out.trans st6)
              have TF := Lib.hid (after_block (la := la) ag6 HT'.out (fun a q h => dynamicR_mono h) (show 8 * bs.length + 1 ≤ f + 1 + p by omega))
              clear hs6 st6 ag6 H4 S4 c44 HT'
              go_wp2
              go_roundg f
              case measure => omega
              case rel => exact ⟨o6, p6, e6, la, rfl, H6.out, S6.out, ho6, TF.out⟩
            · rw [if_neg (by decide), if_neg (by decide), if_neg (by decide)] at HT'
              simp only [Res.bind] at HT'
              go_wp2_with fail
              refine (rfail_any base s bs (p + 1 + 2) out (mo : Int) 0 4 w4 H4.out).mono ?_
              rintro ev w6 ⟨rfl, hs6, st6, _⟩
              rw [if_pos rfl] at hs6
              have H6 := Lib.hid hs6
              have S6 := Lib.hid (S4.out.trans st6)
              clear hs6 st6 H4 S4 c44
              go_wp2
              go_roundg f
              case measure => omega
              case rel => exact ⟨out, p + 1 + 2, 4, la, rfl, H6.out, S6.out, hol, .inr (.inr ⟨false, rfl, HT'.out⟩)⟩
          · obtain ⟨h4, hTb⟩ := T4.out.resolve_right (fun h => he h.1)
            have HT' := Lib.hid hTb
            subst h4
            clear hs4 st4 tk4 H3 S3 T3 T4 TK3 hx4 he hTb
            go_wp2
            refine wp_region_qs (fun _ w' => w'.cell? ⟨s, 4, none⟩ = some (.int .i64 4)) [(0, some 0), (1, some 0), (2, some 0), (3, some 0), (4, some 0), (5, some 0), (6, some 0)] (by kernel_rfl) (by kernel_rfl) (by kernel_rfl) (by kernel_rfl) (by kernel_rfl) (fun _ _ _ _ _ h => h) c44 ?_
            simp only [List.map_cons, List.map_nil, List.getD_cons_succ, List.getD_cons_zero]
            (repeat (first | (refine qs_now (v := ?_) (by rfl) ?_ ?_; rotate_left 1; (· (intro w' hS; go_simp; (try (simp only [↓IntWalk.iteOmega]; go_simp)); (try simp (disch := omega) only [IntWalk.i64_in]); try with_reducible rfl)); simp only [Act.put, List.setIfInBounds_toArray, List.set_cons_zero, List.set_cons_succ]) | (refine qs_run (v := ?_) (by rfl) ?_ ?_; rotate_left 1; (· (intro j w' hS; go_simp; (try (simp only [↓IntWalk.iteOmega]; go_simp)); (try simp (disch := omega) only [IntWalk.i64_in]); try with_reducible rfl)); simp only [Act.put, List.setIfInBounds_toArray, List.set_cons_zero, List.set_cons_succ]) | (refine qs_skip (by rfl) ?_; simp only [Act.put, List.setIfInBounds_toArray, List.set_cons_zero, List.set_cons_succ])))
            refine qs_nil ?_
            go_wp2
            go_ret3
            rw [HP.out, HT'.out]
            exact ⟨(FIN.out _ S4.out).drew, rfl⟩
        · have HT' := Lib.hid hT
          clear hT HT
          have dla : ((la : Int) == 0) = false := by simp; omega
          obtain ⟨g1, g2, g3, g4, A0, c0, vv, q7, q6, qA, q8, q9⟩ := H.out
          obtain ⟨Ao, co, rfl, _⟩ := own_slice q8
          have c2 := q7.cell (i := 2) (v := .slice Ao out.length co) rfl
          have c1 := q7.cell (i := 1) (v := .int .i64 (p : Int)) rfl
          have O := Lib.hid q8
          have O9 := Lib.hid q9
          clear q7 q8 q9 q6 qA
          go_wp2
          refine wp_region_qs (fun _ w' => w'.cell? ⟨s, 2, none⟩ = some (.slice Ao out.length co) ∧ w'.cell? ⟨s, 1, none⟩ = some (.int .i64 (p : Int))) [(0, some 0), (1, some 0), (2, some 0), (3, some 0), (4, some 0), (5, some 0), (6, some 0), (7, some 0), (8, some 0), (9, some 0), (10, some 0), (11, some 0), (12, some 0)] (by kernel_rfl) (by kernel_rfl) (by kernel_rfl) (by kernel_rfl) (by kernel_rfl) (fun _ _ _ _ _ h => h) ⟨c2, c1⟩ ?_
          simp only [List.map_cons, List.map_nil, List.getD_cons_succ, List.getD_cons_zero]
          (repeat (first | (refine qs_now (v := ?_) (by rfl) ?_ ?_; rotate_left 1; (· (intro w' hS; go_simp; (try (simp only [↓IntWalk.iteOmega]; go_simp)); (try simp (disch := omega) only [IntWalk.i64_in]); try with_reducible rfl)); simp only [Act.put, List.setIfInBounds_toArray, List.set_cons_zero, List.set_cons_succ]) | (refine qs_run (v := ?_) (by rfl) ?_ ?_; rotate_left 1; (· (intro j w' hS; go_simp; (try (simp only [↓IntWalk.iteOmega]; go_simp)); (try simp (disch := omega) only [IntWalk.i64_in]); try with_reducible rfl)); simp only [Act.put, List.setIfInBounds_toArray, List.set_cons_zero, List.set_cons_succ]) | (refine qs_skip (by rfl) ?_; simp only [Act.put, List.setIfInBounds_toArray, List.set_cons_zero, List.set_cons_succ])))
          refine qs_nil ?_
          go_wp2
          go_ret3
          rw [HP.out, HT'.out]
          have B8 := Lib.hid ((Below.refl wr.heap.size wr).drew)
          refine ⟨FIN.out _ (S.out.trans (StStep.of_below B8.out g3)), Ao, co, ?_, ?_, g4⟩
          · show Ending.returned (.tuple #[.slice Ao out.length co, .int .i64 (IntKind.i64.wrap (((p : Int) + 7).tdiv 8)), .int .i64 0]) = _
            rw [show (p : Int) + 7 = (p : Int) + 8 - 1 by omega, end_num p (by omega)]
          · exact own_from (own_below O.out B8.out) (fun j hj => by have := O9.out j hj; omega)
        · have HT' := Lib.hid hT
          clear hT HT
          have hne := errOf_ne b
          obtain ⟨E, hE⟩ : ∃ E, E = errOf b := ⟨_, rfl⟩
          rw [← hE] at c4 H hne
          have dE1 : (E == 0) = false := by simpa using hne
          have dE2 : (E != 0) = true := by simpa using hne
          have HE := Lib.hid hE
          clear hE hne
          by_cases hla : la = 0
          · subst hla
            go_wp2
            refine wp_region_qs (fun _ w' => w'.cell? ⟨s, 4, none⟩ = some (.int .i64 E)) [(0, some 0), (1, some 0), (2, some 0), (3, some 0), (4, some 0), (5, some 0), (6, some 0)] (by kernel_rfl) (by kernel_rfl) (by kernel_rfl) (by kernel_rfl) (by kernel_rfl) (fun _ _ _ _ _ h => h) c4 ?_
            simp only [List.map_cons, List.map_nil, List.getD_cons_succ, List.getD_cons_zero]
            (repeat (first | (refine qs_now (v := ?_) (by rfl) ?_ ?_; rotate_left 1; (· (intro w' hS; go_simp; (try (simp only [↓IntWalk.iteOmega]; go_simp)); (try simp (disch := omega) only [IntWalk.i64_in]); try with_reducible rfl)); simp only [Act.put, List.setIfInBounds_toArray, List.set_cons_zero, List.set_cons_succ]) | (refine qs_run (v := ?_) (by rfl) ?_ ?_; rotate_left 1; (· (intro j w' hS; go_simp; (try (simp only [↓IntWalk.iteOmega]; go_simp)); (try simp (disch := omega) only [IntWalk.i64_in]); try with_reducible rfl)); simp only [Act.put, List.setIfInBounds_toArray, List.set_cons_zero, List.set_cons_succ]) | (refine qs_skip (by rfl) ?_; simp only [Act.put, List.setIfInBounds_toArray, List.set_cons_zero, List.set_cons_succ])))
            refine qs_nil ?_
            go_wp2
            go_ret3
            rw [HP.out, HT'.out]
            have hE := HE.out
            subst hE
            exact ⟨(FIN.out _ S.out).drew, rfl⟩
          · have dla : ((la : Int) == 0) = false := by simp; omega
            go_wp2
            refine wp_region_qs (fun _ w' => w'.cell? ⟨s, 4, none⟩ = some (.int .i64 E)) [(0, some 0), (1, some 0), (2, some 0), (3, some 0), (4, some 0), (5, some 0), (6, some 0)] (by kernel_rfl) (by kernel_rfl) (by kernel_rfl) (by kernel_rfl) (by kernel_rfl) (fun _ _ _ _ _ h => h) c4 ?_
            simp only [List.map_cons, List.map_nil, List.getD_cons_succ, List.getD_cons_zero]
            (repeat (first | (refine qs_now (v := ?_) (by rfl) ?_ ?_; rotate_left 1; (· (intro w' hS; go_simp; (try (simp only [↓IntWalk.iteOmega]; go_simp)); (try simp (disch := omega) only [IntWalk.i64_in]); try with_reducible rfl)); simp only [Act.put, List.setIfInBounds_toArray, List.set_cons_zero, List.set_cons_succ]) | (refine qs_run (v := ?_) (by rfl) ?_ ?_; rotate_left 1; (· (intro j w' hS; go_simp; (try (simp only [↓IntWalk.iteOmega]; go_simp)); (try simp (disch := omega) only [IntWalk.i64_in]); try with_reducible rfl)); simp only [Act.put, List.setIfInBounds_toArray, List.set_cons_zero, List.set_cons_succ]) | (refine qs_skip (by rfl) ?_; simp only [Act.put, List.setIfInBounds_toArray, List.set_cons_zero, List.set_cons_succ])))
            refine qs_nil ?_
            go_wp2
            go_ret3
            rw [HP.out, HT'.out]
            have hE := HE.out
            subst hE
            exact ⟨(FIN.out _ S.out).drew, rfl⟩
end Go.Proofs.YtacidmamfkfipaaDoor
