/-
  LinesSteps, walked.
-/
import Derived.Test.YtfehgpjnlkgekaaGreatDoorLnRs
import Derived.Test.YtfehgpjnlkgekaaGreatDoorLnAwake
import Derived.Test.YtfehgpjnlkgekaaGreatDoorBagS
namespace Go.Proofs.YtfehgpjnlkgekaaGreatDoor
open Go.RowKit
set_option linter.unusedVariables false
set_option linter.unusedSimpArgs false

theorem fates_eq : ∀ (ts : List (List UInt8)) (l : List Int), fatesL ts = some l → l.length = ts.length
  | [], l, h => by injection h with h; subst h; rfl
  | t :: ts, l, h => by
    unfold fatesL at h
    split at h
    · cases hf : fatesL ts with
      | none => rw [hf] at h; cases h
      | some r =>
        rw [hf] at h
        injection h with h
        subst h
        rw [List.length_cons, List.length_cons, fates_eq ts r hf]
    · cases h
theorem pairs_half : ∀ (n : Nat) (l : List UInt8) (o : List Int), l.length ≤ n → pairsL l = some o → o.length ≤ l.length
  | 0, l, o, hl, h => by
    have : l = [] := List.eq_nil_of_length_eq_zero (by omega)
    subst this
    injection h with h
    subst h
    simp
  | n + 1, [], o, hl, h => by injection h with h; subst h; simp
  | n + 1, [a], o, hl, h => by cases h
  | n + 1, a :: b :: r, o, hl, h => by
    unfold pairsL at h
    split at h
    · rename_i x y h1 h2
      cases hr : pairsL r with
      | none => rw [hr] at h; cases h
      | some q =>
        rw [hr] at h
        injection h with h
        subst h
        have := pairs_half n r q (by simp only [List.length_cons] at hl; omega) hr
        simp only [List.length_cons]; omega
    · cases h
theorem unhex_half {l : List UInt8} {o : List Int} (h : unhexL l = some o) : o.length ≤ l.length := by
  unfold unhexL at h
  split at h
  · injection h with h; subst h; simp
  · split at h
    · cases h
    · exact pairs_half _ l o (Nat.le_refl _) h
theorem follow_len (M : Nat) (rest : List (List UInt8)) (hM : ∀ t ∈ rest, t.length ≤ M) : ∀ (fs : List UInt8) (i : Nat) (x y : StepV), followX fs i rest x = some y → x.bytes.length ≤ M → y.bytes.length ≤ M ∧ y.fates.length ≤ x.fates.length + fs.length * rest.length
  | [], i, x, y, h, hx => by injection h with h; subst h; exact ⟨hx, by simp⟩
  | f :: fs, i, x, y, h, hx => by
    unfold followX at h
    split at h
    · rename_i z hz
      have key : z.bytes.length ≤ M ∧ z.fates.length ≤ x.fates.length + rest.length := by
        unfold fieldX at hz
        split at hz
        · cases hf : fatesL rest with
          | none => rw [hf] at hz; cases hz
          | some r =>
            rw [hf] at hz
            injection hz with hz
            subst hz
            have := fates_eq rest r hf
            exact ⟨hx, by simp; omega⟩
        · split at hz
          · rename_i t ht
            have htm := hM t (List.mem_of_getElem? ht)
            unfold fieldL at hz
            split at hz
            · cases hn : numL t with
              | none => rw [hn] at hz; cases hz
              | some v => rw [hn] at hz; injection hz with hz; subst hz; exact ⟨hx, by simp⟩
            · split at hz
              · cases hn : numL t with
                | none => rw [hn] at hz; cases hz
                | some v => rw [hn] at hz; injection hz with hz; subst hz; exact ⟨hx, by simp⟩
              · split at hz
                · cases hn : numL t with
                  | none => rw [hn] at hz; cases hz
                  | some v => rw [hn] at hz; injection hz with hz; subst hz; exact ⟨hx, by simp⟩
                · cases hn : unhexL t with
                  | none => rw [hn] at hz; cases hz
                  | some v => rw [hn] at hz; injection hz with hz; subst hz; exact ⟨by have := unhex_half hn; simp; omega, by simp⟩
          · cases hz
      have := follow_len M rest hM fs (i + 1) z y h key.1
      refine ⟨this.1, ?_⟩
      rw [List.length_cons, Nat.succ_mul]
      omega
    · cases h
theorem step_len {l : List UInt8} {y : StepV} (h : stepL l = some y) : y.bytes.length ≤ l.length ∧ y.fates.length ≤ 3 * (l.length + 1) := by
  unfold stepL at h
  cases hw : wordsL l with
  | nil => rw [hw] at h; cases h
  | cons a r =>
    rw [hw] at h
    simp only at h
    unfold readL at h
    split at h
    · cases h
    · split at h
      · cases h
      · have hr : r.length ≤ l.length := by have := words_count l; rw [hw] at this; simp at this; omega
        have := follow_len l.length r (fun t ht => words_le l t (by rw [hw]; exact List.mem_cons_of_mem _ ht)) _ _ _ _ h (by simp [zeroS])
        have h3 := (shape_facts a).2.2.1
        refine ⟨this.1, Nat.le_trans this.2 ?_⟩
        have h4 : (shapeL a).2.length * r.length ≤ 3 * (l.length + 1) := Nat.mul_le_mul h3 (by omega)
        simp only [zeroS, List.length_nil, Nat.zero_add]
        exact h4
/-- What a line says, and the error. -/
def stepR (l : List UInt8) : StepV × Int := match stepL l with
  | some y => (y, 0)
  | none => (zeroS 0, 310)
theorem stepR_len (l : List UInt8) : (stepR l).1.bytes.length ≤ l.length ∧ (stepR l).1.fates.length ≤ 3 * (l.length + 1) := by
  unfold stepR
  cases h : stepL l with
  | none => exact ⟨Nat.zero_le _, Nat.zero_le _⟩
  | some y => exact step_len h
theorem StepPost.uni {l : List UInt8} {w w' : World} {e : Ending} (h : StepPost l w e w') : Below w.heap.size w w' ∧ ∃ A c A' c', e = .returned (.tuple #[.agg (stepVs (stepR l).1 (.slice A (stepR l).1.bytes.length c) (.slice A' (stepR l).1.fates.length c')), .int .i64 (stepR l).2]) ∧
    w'.ownsRow w.heap.size 5 1 (.slice A (stepR l).1.bytes.length c) (stepR l).1.bytes.length ((stepR l).1.bytes.map (Value.int .u8)) ∧ w'.ownsRow w.heap.size 50 1 (.slice A' (stepR l).1.fates.length c') (stepR l).1.fates.length ((stepR l).1.fates.map (Value.int .i64)) := by
  obtain ⟨hb, h⟩ := h
  refine ⟨hb, ?_⟩
  unfold stepR
  cases hs : stepL l with
  | some y => rw [hs] at h; exact h
  | none =>
    rw [hs] at h
    exact ⟨none, 0, none, 0, h, World.ownsRow_nil _ _ _ _, World.ownsRow_nil _ _ _ _⟩
def two {α : Type} (a b : α) : Nat → α := fun k => if k = 0 then a else b
theorem two_all {p : Nat → Prop} (h0 : p 0) (h1 : p 1) : ∀ k, k < 2 → p k := fun k hk => by
  rcases (show k = 0 ∨ k = 1 by omega) with rfl | rfl
  · exact h0
  · exact h1
theorem two_apt {v u : Value} (h : Ap v u) : Apt 2 (two v u) (two v u) := fun i j hi hj hij => by
  rcases (show (i = 0 ∧ j = 1) ∨ (i = 1 ∧ j = 0) by omega) with ⟨rfl, rfl⟩ | ⟨rfl, rfl⟩
  · exact h
  · exact h.symm
theorem ap_old {w w2 : World} {b1 b2 n1 n2 s1 s2 : Nat} {t1 t2 : TypeId} {v1 v2 : Value} {x1 x2 : List Value} (h1 : w.ownsRow b1 t1 s1 v1 n1 x1) (h2 : w2.ownsRow b2 t2 s2 v2 n2 x2) (h : w.heap.size ≤ b2) : Ap v1 v2 := fun b hb hu => by
  have := (h1.lt b hb).2
  have := (h2.lt b hu).1
  omega
theorem own_one6 {w : World} {g base : Nat} {t : TypeId} {v0 v1 v2 v3 v4 v5 : Value} (h : Blk w g t #[v0, v1, v2, v3, v4, v5]) (hb : base ≤ g) : w.ownsRow base t 6 (.slice (some ⟨g, 0, none⟩) 1 1) 1 [v0, v1, v2, v3, v4, v5] :=
  ⟨rfl, .inr ⟨g, 1, _, rfl, hb, h, Nat.le_refl _, by unfold maxLen; omega, rfl, rfl⟩⟩
set_option maxHeartbeats 3200000 in
theorem steps_any (s : ByteArray) (w : World) (hs : s.size ≤ 140737488351232) (ht : LnT w) :
    Calls Tryz.prog 3 #[.string s] w fun e w' => e = .returned (.bool true) ∧ Below w.heap.size w w' := by
  have HT := Lib.hid ht
  clear ht
  by_cases hm : s.size ≤ 30000
  · have hmI : ¬ (30000 : Int) < (s.size : Int) := by omega
    have hlen := stepR_len s.data.toList
    rw [len_ba] at hlen
    have U1 := Lib.hid (fun (w1 : World) (h : Below w.heap.size w w1) => (step_any s w1 (HT.out.below h) (by omega)).mono (fun e w' h => h.uni))
    have U2 := Lib.hid (fun (w1 : World) => (rstep_any s w1 (by omega)).mono (fun e w' h => h.uni))
    generalize stepR s.data.toList = p at *
    obtain ⟨y, er⟩ := p
    simp only at hlen U1 U2
    obtain ⟨hyb, hyf⟩ := hlen
    have dE : (er == er) = true := by simp
    go_enter Tryz.func3, Tryz.ntmps3
    go_wp2_with fail
    refine (U1.out w (Below.refl _ _)).mono ?_
    rintro ev w1 ⟨hb1, A, c, A', c', rfl, hA, hA'⟩
    have L1 := Lib.hid hb1
    have OA := Lib.hid hA
    have OA' := Lib.hid hA'
    clear hb1 hA hA'
    unfold stepVs
    go_wp2_with fail
    obtain ⟨w2, hw2⟩ : ∃ w2, w2 = w1.alloc (Obj.cells #[.int .u8 y.kind, .int .i64 y.pos, .int .i64 y.n, .int .i64 y.snap, .slice A y.bytes.length c, .slice A' y.fates.length c'] 27) := ⟨_, rfl⟩
    have K2 := Lib.hid (show Blk w2 w1.heap.size 27 #[.int .u8 y.kind, .int .i64 y.pos, .int .i64 y.n, .int .i64 y.snap, .slice A y.bytes.length c, .slice A' y.fates.length c'] by rw [hw2]; exact Blk.made _ _ _)
    have B2 := Lib.hid (show Below w1.heap.size w1 w2 by rw [hw2]; exact (Below.refl _ _).alloc (Nat.le_refl _) _)
    have L2 := Lib.hid (below_chain L1.out B2.out)
    rw [← hw2]
    clear hw2
    refine (U1.out w2 L2.out).mono ?_
    rintro ev w3 ⟨hb3, B, d, B', d', rfl, hB, hB'⟩
    have L3 := Lib.hid (below_chain L2.out hb3)
    have A12 := Lib.hid (ap_old OA.out hB B2.out.size)
    have A12' := Lib.hid (ap_old OA'.out hB' B2.out.size)
    have K3 := Lib.hid (K2.out.below hb3 K2.out.lt)
    have O3 := Lib.hid (own_lo8 (own_lo8 OA.out B2.out) hb3)
    have O3' := Lib.hid (own_lo8 (own_lo8 OA'.out B2.out) hb3)
    have OB := Lib.hid (own_base8 hB L2.out.size)
    have OB' := Lib.hid (own_base8 hB' L2.out.size)
    clear hb3 hB hB' K2 OA OA' B2 L1
    unfold stepVs
    go_wp2_with fail
    obtain ⟨w4, hw4⟩ : ∃ w4, w4 = w3.alloc (Obj.cells #[.int .u8 y.kind, .int .i64 y.pos, .int .i64 y.n, .int .i64 y.snap, .slice B y.bytes.length d, .slice B' y.fates.length d'] 27) := ⟨_, rfl⟩
    have J4 := Lib.hid (show Blk w4 w3.heap.size 27 #[.int .u8 y.kind, .int .i64 y.pos, .int .i64 y.n, .int .i64 y.snap, .slice B y.bytes.length d, .slice B' y.fates.length d'] by rw [hw4]; exact Blk.made _ _ _)
    have B4 := Lib.hid (show Below w3.heap.size w3 w4 by rw [hw4]; exact (Below.refl _ _).alloc (Nat.le_refl _) _)
    have L4 := Lib.hid (below_chain L3.out B4.out)
    rw [← hw4]
    clear hw4
    refine (U2.out w4).mono ?_
    rintro ev w5 ⟨hb5, C, q, C', q', rfl, hC, hC'⟩
    have B5 := Lib.hid (below_chain B4.out hb5)
    have L5 := Lib.hid (below_chain L4.out hb5)
    have K5 := Lib.hid (K3.out.below B5.out K3.out.lt)
    have J5 := Lib.hid (J4.out.below hb5 J4.out.lt)
    have O5 := Lib.hid (own_lo8 O3.out B5.out)
    have O5' := Lib.hid (own_lo8 O3'.out B5.out)
    have P5 := Lib.hid (own_lo8 OB.out B5.out)
    have P5' := Lib.hid (own_lo8 OB'.out B5.out)
    have OC := Lib.hid hC
    have OC' := Lib.hid hC'
    clear hb5 hC hC' K3 J4 O3 O3' OB OB' B4 L2 L3 L4 B5
    have x0 := cell_al (K5.out.cell (i := 0) rfl)
    have x1 := cell_al (K5.out.cell (i := 1) rfl)
    have x2 := cell_al (K5.out.cell (i := 2) rfl)
    have x3 := cell_al (K5.out.cell (i := 3) rfl)
    have x4 := cell_al (K5.out.cell (i := 4) rfl)
    have x5 := cell_al (K5.out.cell (i := 5) rfl)
    unfold stepVs
    go_wp2_with fail
    obtain ⟨w6, hw6⟩ : ∃ w6, w6 = w5.alloc (Obj.cells #[.int .u8 y.kind, .int .i64 y.pos, .int .i64 y.n, .int .i64 y.snap, .slice C y.bytes.length q, .slice C' y.fates.length q'] 27) := ⟨_, rfl⟩
    have B6 := Lib.hid (show Below w5.heap.size w5 w6 by rw [hw6]; exact (Below.refl _ _).alloc (Nat.le_refl _) _)
    rw [← hw6]
    clear hw6 x0 x1 x2 x3 x4 x5
    refine (same_step y y _ _ w6 ⟨A, c, A', c', rfl, (RdI.of_own O5.out).below B6.out, (RdI.of_own O5'.out).below B6.out⟩ ⟨C, q, C', q', rfl, (RdI.of_own OC.out).below B6.out, (RdI.of_own OC'.out).below B6.out⟩ (by omega) (by omega) (by omega) (by omega)).mono ?_
    rintro ev w7 ⟨rfl, hb7⟩
    rw [eqS_self]
    have B7 := Lib.hid (below_chain B6.out hb7)
    have L7 := Lib.hid (below_chain L5.out B7.out)
    have K7 := Lib.hid (K5.out.below B7.out K5.out.lt)
    have J7 := Lib.hid (J5.out.below B7.out J5.out.lt)
    have O7 := Lib.hid (own_lo8 O5.out B7.out)
    have O7' := Lib.hid (own_lo8 O5'.out B7.out)
    have P7 := Lib.hid (own_lo8 P5.out B7.out)
    have P7' := Lib.hid (own_lo8 P5'.out B7.out)
    clear hb7 B6 B7 L5 K5 J5 O5 O5' P5 P5' OC OC' U1 U2
    have x0 := K7.out.cell (i := 0) rfl
    have x1 := K7.out.cell (i := 1) rfl
    have x2 := K7.out.cell (i := 2) rfl
    have x3 := K7.out.cell (i := 3) rfl
    have x4 := K7.out.cell (i := 4) rfl
    have x5 := K7.out.cell (i := 5) rfl
    have z0 := cell_al (J7.out.cell (i := 0) rfl)
    have z1 := cell_al (J7.out.cell (i := 1) rfl)
    have z2 := cell_al (J7.out.cell (i := 2) rfl)
    have z3 := cell_al (J7.out.cell (i := 3) rfl)
    have z4 := cell_al (J7.out.cell (i := 4) rfl)
    have z5 := cell_al (J7.out.cell (i := 5) rfl)
    go_wp2_with fail
    obtain ⟨w8, hw8⟩ : ∃ w8, w8 = ((w7.alloc (Obj.cells #[.int .u8 y.kind, .int .i64 y.pos, .int .i64 y.n, .int .i64 y.snap, .slice A y.bytes.length c, .slice A' y.fates.length c'] 27)).alloc (Obj.cells #[.int .u8 y.kind, .int .i64 y.pos, .int .i64 y.n, .int .i64 y.snap, .slice B y.bytes.length d, .slice B' y.fates.length d'] 27)).alloc (Obj.cells #[.slice (some ⟨w7.heap.size, 0, none⟩) 1 1, .slice (some ⟨w7.heap.size + 1, 0, none⟩) 1 1] 33) := ⟨_, rfl⟩
    have B8 := Lib.hid (show Below w7.heap.size w7 w8 by rw [hw8]; exact (((Below.refl _ _).alloc (Nat.le_refl _) _).alloc (by simp) _).alloc (by simp; omega) _)
    have M1 := Lib.hid (show Blk w8 w7.heap.size 27 #[.int .u8 y.kind, .int .i64 y.pos, .int .i64 y.n, .int .i64 y.snap, .slice A y.bytes.length c, .slice A' y.fates.length c'] by rw [hw8]; exact ((Blk.made _ _ _).alloc _).alloc _)
    have M2 := Lib.hid (show Blk w8 (w7.heap.size + 1) 27 #[.int .u8 y.kind, .int .i64 y.pos, .int .i64 y.n, .int .i64 y.snap, .slice B y.bytes.length d, .slice B' y.fates.length d'] by rw [hw8]; exact (Blk.made_at _ _ _ (by simp)).alloc _)
    have M3 := Lib.hid (show Blk w8 (w7.heap.size + 1 + 1) 33 #[.slice (some ⟨w7.heap.size, 0, none⟩) 1 1, .slice (some ⟨w7.heap.size + 1, 0, none⟩) 1 1] by rw [hw8]; exact Blk.made_at _ _ _ (by simp))
    have L8 := Lib.hid (below_chain L7.out B8.out)
    rw [← hw8]
    have hw7 := L7.out.size
    clear hw8 x0 x1 x2 x3 x4 x5 z0 z1 z2 z3 z4 z5
    refine (apartSteps_any w8 w.heap.size (w7.heap.size + 1 + 1) 2 2 (two (.slice A y.bytes.length c) (.slice B y.bytes.length d)) (two (.slice A' y.fates.length c') (.slice B' y.fates.length d')) (two (.slice (some ⟨w7.heap.size, 0, none⟩) 1 1) (.slice (some ⟨w7.heap.size + 1, 0, none⟩) 1 1)) (fun _ => y.bytes.length) (fun _ => y.fates.length) (fun _ => y.bytes) (fun _ => y.fates.map (Value.int .i64))
      (two [.int .u8 y.kind, .int .i64 y.pos, .int .i64 y.n, .int .i64 y.snap, .slice A y.bytes.length c, .slice A' y.fates.length c'] [.int .u8 y.kind, .int .i64 y.pos, .int .i64 y.n, .int .i64 y.snap, .slice B y.bytes.length d, .slice B' y.fates.length d'])
      ⟨_, M3.out, two_all rfl rfl⟩ (two_all (own_lo8 O7.out B8.out) (own_lo8 P7.out B8.out)) (two_all (own_lo8 O7'.out B8.out) (own_lo8 P7'.out B8.out)) (two_all (own_one6 M1.out hw7) (own_one6 M2.out (by omega))) (two_all ⟨_, _, _, _, rfl⟩ ⟨_, _, _, _, rfl⟩)
      (two_apt A12.out) (two_apt A12'.out) (two_apt (fun b hb hu => by injection hb with hb; injection hu with hu; simp only at hb hu; omega)) (by omega) (by omega) (fun _ _ => by omega) (fun _ _ => by omega) L8.out.size).mono ?_
    rintro ev w9 ⟨rfl, hb9⟩
    have L9 := Lib.hid (L8.out.trans hb9)
    clear hb9 L7 L8 B8 M1 M2 M3 K7 J7 O7 O7' P7 P7'
    go_wp2_with fail
    refine (awake_any w9 (HT.out.below L9.out)).mono ?_
    rintro ev w10 ⟨rfl, hb10⟩
    have L10 := Lib.hid (below_chain L9.out hb10)
    clear hb10
    go_wp2
    go_ret
    exact ⟨rfl, L10.out⟩
  · have hmI : (30000 : Int) < (s.size : Int) := by omega
    go_enter Tryz.func3, Tryz.ntmps3
    go_wp2_with fail
    refine (awake_any w HT.out).mono ?_
    rintro ev w7 ⟨rfl, hb7⟩
    go_wp2
    go_ret
    exact ⟨rfl, hb7⟩
end Go.Proofs.YtfehgpjnlkgekaaGreatDoor
