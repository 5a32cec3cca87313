/-
  huff.pairs: each two of a row as one.
-/
import Derived.Test.YtlhaehefhhcgaaaDoorMerge
import Derived.Test.YtlhaehefhhcgaaaDoorLenPlain
namespace Go.Proofs.YtlhaehefhhcgaaaDoor
open Go.RowKit
set_option linter.unusedVariables false

/-- A pack: its weight, its slice, its symbols. -/
abbrev TP := Int × (Value × List Int)
def pvs (z : List TP) : List PV := z.map fun t => (t.1, t.2.1)
def aps (z : List TP) : List (Int × List Int) := z.map fun t => (t.1, t.2.2)
def Sym (w : World) (v : Value) (l : List Int) : Prop := w.ownsRow 0 3 1 v l.length (l.map (Value.int .i64))
/-- A row of packs, with their symbols. -/
structure PRw (w : World) (v : Value) (n : Nat) (z : List TP) : Prop where
  row : PSl w v n (pvs z)
  sym : ∀ t ∈ z, Sym w t.2.1 t.2.2
theorem Sym.below {w w' : World} {v : Value} {l : List Int} (h : Sym w v l) (hb : Below w.heap.size w w') : Sym w' v l :=
  World.ownsRow.kept (row := none) h ⟨hb.os, hb.tape, hb.output, hb.size, fun k hk _ => hb.block k hk⟩ (by cases hh : v.ownBlock <;> simp)
theorem PRw.below {w w' : World} {v : Value} {n : Nat} {z : List TP} (h : PRw w v n z) (hb : Below w.heap.size w w') : PRw w' v n z := ⟨h.row.below hb, fun t ht => (h.sym t ht).below hb⟩
theorem PRw.len {w : World} {v : Value} {n : Nat} {z : List TP} (h : PRw w v n z) : z.length = n := by have := h.row.len; simpa [pvs] using this
theorem PSl.at_ {w : World} {g n cap : Nat} {ps : List PV} (h : PSl w (.slice (some ⟨g, 0, none⟩) n cap) n ps) {i : Nat} {p : PV} (hi : ps[i]? = some p) :
    w.cell? ⟨g, i * 2, none⟩ = some (.int .i64 p.1) ∧ w.cell? ⟨g, i * 2 + 1, none⟩ = some p.2 := (⟨h.own, h.one⟩ : PRow w g n cap ps).at_ hi
theorem Sym.one {w : World} {v : Value} {l : List Int} (h : Sym w v l) : v.oneCell' = true := by
  obtain ⟨A, c, rfl, _⟩ := own_slice h
  rfl

theorem own_below {w w' : World} {base : Nat} {e : TypeId} {size n : Nat} {v : Value} {xs : List Value} (h : w.ownsRow base e size v n xs) (hb : Below w.heap.size w w') : w'.ownsRow base e size v n xs :=
  h.kept (row := none) ⟨hb.os, hb.tape, hb.output, hb.size, fun k hk _ => hb.block k hk⟩ (by cases hh : v.ownBlock <;> simp)
/-- Rows of different elements never lie in one block. -/
theorem own_apart {w : World} {b1 b2 : Nat} {e1 e2 : TypeId} {s1 s2 n1 n2 : Nat} {v1 v2 : Value} {x1 x2 : List Value} (h1 : w.ownsRow b1 e1 s1 v1 n1 x1) (h2 : w.ownsRow b2 e2 s2 v2 n2 x2) (hne : e1 ≠ e2) :
    v1.ownBlock = none ∨ v1.ownBlock ≠ v2.ownBlock := by
  rcases h1.2 with ⟨rfl, _⟩ | ⟨g, cap, cur, rfl, _, hg, _⟩
  · exact .inl rfl
  · refine .inr (fun he => ?_)
    rcases h2.2 with ⟨rfl, _⟩ | ⟨g', cap', cur', rfl, _, hg', _⟩
    · simp [Value.ownBlock] at he
    · simp only [Value.ownBlock, Option.some.injEq] at he
      subst he
      rw [hg] at hg'
      injection hg' with hg'
      injection hg' with _ ht
      exact hne ht
theorem Src.of_blk {w : World} {B : Nat} {t : TypeId} {cs : Array Value} {size m c : Nat} (h : Blk w B t cs) (hs : cs.size = m * size) : Src w size (.slice (some ⟨B, 0, none⟩) m c) m cs.toList :=
  ⟨_, c, rfl, by simpa using hs, fun _ => ⟨B, 0, rfl, h.lt, fun j y hy => by rw [Nat.zero_add, h.cellq]; simpa using hy⟩⟩
theorem keepCell {B : Nat} {w w' : World} {g o : Nat} {v : Value} (hb : Below B w w') (hg : g < B) (h : w.cell? ⟨g, o, none⟩ = some v) : w'.cell? ⟨g, o, none⟩ = some v :=
  (World.cell?_of_block (a := ⟨g, o, none⟩) (hb.block g hg)).trans h

def PairsPost (z : List TP) (w : World) (e : Ending) (w' : World) : Prop :=
  ∃ v' z', e = .returned v' ∧ w'.ownsRow w.heap.size 149 2 v' (z.length / 2) (flat (pvs z')) ∧ (∀ t ∈ z', Sym w' t.2.1 t.2.2) ∧ (∀ t ∈ z', ∀ b, t.2.1.ownBlock = some b → w.heap.size ≤ b) ∧ aps z' = pairsOf (aps z) ∧ Below w.heap.size w w'
def P1 (z : List TP) (w : World) (v i : Value) (wr : World) : Prop :=
  ∃ (k : Nat) (z' : List TP), 2 * k ≤ z.length ∧ i = .int .i64 (2 * k : Nat) ∧ wr.ownsRow w.heap.size 149 2 v k (flat (pvs z')) ∧ (∀ t ∈ z', Sym wr t.2.1 t.2.2) ∧ (∀ t ∈ z', ∀ b, t.2.1.ownBlock = some b → w.heap.size ≤ b) ∧ aps z' = pairsOf (aps (z.take (2 * k))) ∧ Below w.heap.size w wr

/-- What is asked of a row's sizes. -/
def Fair (z : List TP) : Prop := ∀ t ∈ z, 0 ≤ t.1 ∧ t.1 ≤ 1000000000000 ∧ t.2.2.length ≤ 50000

set_option maxHeartbeats 1600000 in
theorem pairs_any (z : List TP) (g n cap : Nat) (w : World) (h : PRw w (.slice (some ⟨g, 0, none⟩) n cap) n z) (hn : n ≤ 100000) (hf : Fair z) :
    Calls Tryd.prog 89 #[.slice (some ⟨g, 0, none⟩) n cap] w (PairsPost z w) := by
  have hlen := h.len
  have H := Lib.hid h
  have HF := Lib.hid hf
  have HL := Lib.hid hlen
  clear h hf hlen
  go_enter Tryd.func89, Tryd.ntmps89
  go_wp2
  go_loopw [3, 4] (P1 z w) (fun _ i _ => n - (intOf i).toNat)
  case atStart => exact ⟨0, [], by omega, rfl, World.ownsRow_nil _ _ _ _, by simp, by simp, rfl, Below.refl _ _⟩
  case round =>
    obtain ⟨k, z', hk, rfl, ho, hs, hfr, hz, hbel⟩ := hrel
    have HFR := Lib.hid hfr
    clear hfr
    have HO := Lib.hid ho
    have HS := Lib.hid hs
    have HZ := Lib.hid hz
    have HBel := Lib.hid hbel
    clear ho hs hz hbel
    have hkn : 2 * k ≤ n := by have := HL.out; omega
    by_cases hlt : 2 * k + 1 < n
    · obtain ⟨⟨x1, u1, l1⟩, ht1⟩ : ∃ t, z[2 * k]? = some t := ⟨_, List.getElem?_eq_getElem (by have := HL.out; omega)⟩
      obtain ⟨⟨x2, u2, l2⟩, ht2⟩ : ∃ t, z[2 * k + 1]? = some t := ⟨_, List.getElem?_eq_getElem (by have := HL.out; omega)⟩
      have hw := H.out.below HBel.out
      have hy1 := hw.sym _ (List.mem_of_getElem? ht1)
      have hy2 := hw.sym _ (List.mem_of_getElem? ht2)
      dsimp only at hy1 hy2
      obtain ⟨A1, cc1, rfl, _⟩ := own_slice hy1
      obtain ⟨A2, cc2, rfl, _⟩ := own_slice hy2
      have HT1 := Lib.hid ht1
      have HT2 := Lib.hid ht2
      have HY1 := Lib.hid hy1
      have HY2 := Lib.hid hy2
      obtain ⟨c1, c2⟩ := hw.row.at_ (i := 2 * k) (p := (x1, .slice A1 l1.length cc1)) (by simp [pvs, ht1])
      obtain ⟨c3, c4⟩ := hw.row.at_ (i := 2 * k + 1) (p := (x2, .slice A2 l2.length cc2)) (by simp [pvs, ht2])
      have hf1 := HF.out _ (List.mem_of_getElem? ht1)
      have hf2 := HF.out _ (List.mem_of_getElem? ht2)
      obtain ⟨f1, f2, f3⟩ := hf1
      obtain ⟨f4, f5, f6⟩ := hf2
      dsimp only at f1 f2 f3 f4 f5 f6 c1 c2 c3 c4
      clear hw ht1 ht2 hy1 hy2
      have hglt : g < wr.heap.size := block_lt_of_cell c1
      have hgw : g < w.heap.size := (H.out.row.own.lt g rfl).2
      obtain ⟨i, hi⟩ : ∃ i, i = 2 * k := ⟨_, rfl⟩
      have HIk := Lib.hid hi
      rw [← hi] at c1 c2 c3 c4 hlt ⊢
      clear hi
      have hi1 : (i : Int) + 1 < n := by omega
      have hi2 : (i : Int) < n := by omega
      go_wp2
      refine wp_region_qs (fun _ w' => w'.cell? ⟨g, i * 2, none⟩ = some (.int .i64 x1) ∧ w'.cell? ⟨g, i * 2 + 1, none⟩ = some (.slice A1 l1.length cc1) ∧ w'.cell? ⟨g, (i + 1) * 2, none⟩ = some (.int .i64 x2) ∧ w'.cell? ⟨g, (i + 1) * 2 + 1, none⟩ = some (.slice A2 l2.length cc2))
        [(0, some 3), (1, some 4), (2, some 4), (3, some 4), (4, some 4), (5, some 4), (6, some 4), (7, some 4), (8, some 4), (9, some 4), (10, some 4), (11, some 4), (12, some 4), (13, some 4), (14, some 4), (15, some 4), (16, some 4), (17, some 3), (18, some 4), (19, some 4), (20, some 4), (21, some 4), (22, some 4), (23, some 3), (24, none), (25, none), (26, some 3), (27, none), (28, none), (29, some 4)] (by kernel_rfl) (by kernel_rfl) (by kernel_rfl) (by kernel_rfl) (by kernel_rfl) (fun _ _ _ _ _ h => h) ⟨c1, c2, c3, c4⟩ ?_
      simp only [List.map_cons, List.map_nil, List.getD_cons_succ, List.getD_cons_zero]
      (repeat (first | (refine qs_now (v := ?_) (by rfl) ?_ ?_; rotate_left 1; (· (intro w' hS; go_simp; (try (simp only [↓IntWalk.iteOmega]; go_simp)); (try simp (disch := omega) only [IntWalk.i64_in]); try with_reducible rfl)); simp only [Act.put, List.setIfInBounds_toArray, List.set_cons_zero, List.set_cons_succ]) | (refine qs_run (v := ?_) (by rfl) ?_ ?_; rotate_left 1; (· (intro j w' hS; go_simp; (try (simp only [↓IntWalk.iteOmega]; go_simp)); (try simp (disch := omega) only [IntWalk.i64_in]); try with_reducible rfl)); simp only [Act.put, List.setIfInBounds_toArray, List.set_cons_zero, List.set_cons_succ]) | (refine qs_skip (by rfl) ?_; simp only [Act.put, List.setIfInBounds_toArray, List.set_cons_zero, List.set_cons_succ])))
      refine qs_act ?_
      go_wp2
      obtain ⟨w1, hw1⟩ : ∃ w1, w1 = (wr.alloc (.cells #[.slice A1 l1.length cc1, .slice A2 l2.length cc2] 45)).drew := ⟨_, rfl⟩
      rw [← hw1]
      have L1 := Lib.hid (show Below wr.heap.size wr w1 by rw [hw1]; exact ((Below.refl _ _).alloc (Nat.le_refl _) _).drew)
      have B1 := Lib.hid (show Blk w1 wr.heap.size 45 #[.slice A1 l1.length cc1, .slice A2 l2.length cc2] by rw [hw1]; exact (Blk.made _ _ _).drew)
      clear hw1
      refine ⟨⟨keepCell L1.out hglt c1, keepCell L1.out hglt c2, keepCell L1.out hglt c3, keepCell L1.out hglt c4⟩, ?_⟩
      refine qs_act ?_
      go_wp2_with fail
      refine (concat_two wr.heap.size 45 _ _ l1.length l2.length l1 l2 w1 B1.out (Src.of_own (HY1.out.below L1.out)) (Src.of_own (HY2.out.below L1.out)) (by omega) (by omega)).mono ?_
      rintro ev w2 ⟨v2, rfl, ho2, hb2⟩
      obtain ⟨A3, cc3, rfl, _⟩ := own_slice ho2
      have L2 := Lib.hid (below_chain L1.out hb2)
      have Y2 := Lib.hid (show Sym w2 (.slice A3 (l1.length + l2.length) cc3) (l1 ++ l2) from ⟨by simp, ho2.2.imp (fun h => by simpa using h) (fun ⟨a, b, c, d, _, f⟩ => ⟨a, b, c, by rw [List.length_append]; exact d, Nat.zero_le _, by rw [List.length_append]; exact f⟩)⟩)
      have F2 := Lib.hid (show ∀ b, (Value.slice A3 (l1.length + l2.length) cc3).ownBlock = some b → w.heap.size ≤ b from fun b hb => Nat.le_trans (Nat.le_trans HBel.out.size L1.out.size) (ho2.lt b hb).1)
      clear ho2 hb2
      go_wp2
      refine ⟨⟨keepCell L2.out hglt c1, keepCell L2.out hglt c2, keepCell L2.out hglt c3, keepCell L2.out hglt c4⟩, ?_⟩
      (repeat (first | (refine qs_now (v := ?_) (by rfl) ?_ ?_; rotate_left 1; (· (intro w' hS; go_simp; (try (simp only [↓IntWalk.iteOmega]; go_simp)); (try simp (disch := omega) only [IntWalk.i64_in]); try with_reducible rfl)); simp only [Act.put, List.setIfInBounds_toArray, List.set_cons_zero, List.set_cons_succ]) | (refine qs_run (v := ?_) (by rfl) ?_ ?_; rotate_left 1; (· (intro j w' hS; go_simp; (try (simp only [↓IntWalk.iteOmega]; go_simp)); (try simp (disch := omega) only [IntWalk.i64_in]); try with_reducible rfl)); simp only [Act.put, List.setIfInBounds_toArray, List.set_cons_zero, List.set_cons_succ]) | (refine qs_skip (by rfl) ?_; simp only [Act.put, List.setIfInBounds_toArray, List.set_cons_zero, List.set_cons_succ])))
      refine qs_act ?_
      go_wp2
      obtain ⟨w3, hw3⟩ : ∃ w3, w3 = w2.alloc (.cells #[.int .i64 (x1 + x2), .slice A3 (l1.length + l2.length) cc3] 149) := ⟨_, rfl⟩
      rw [← hw3]
      have L3 := Lib.hid (show Below wr.heap.size wr w3 by rw [hw3]; exact L2.out.alloc L2.out.size _)
      have B3 := Lib.hid (show Blk w3 w2.heap.size 149 #[.int .i64 (x1 + x2), .slice A3 (l1.length + l2.length) cc3] by rw [hw3]; exact (Blk.made _ _ _))
      have Y3 := Lib.hid (Y2.out.below (show Below w2.heap.size w2 w3 by rw [hw3]; exact (Below.refl _ _).alloc (Nat.le_refl _) _))
      clear hw3 Y2
      refine ⟨⟨keepCell L3.out hglt c1, keepCell L3.out hglt c2, keepCell L3.out hglt c3, keepCell L3.out hglt c4⟩, ?_⟩
      refine qs_act ?_
      have O3 := Lib.hid (own_below HO.out L3.out)
      have M3 := Lib.hid (below_chain HBel.out L3.out)
      have hkk : k ≤ 100000 := by omega
      refine app_src rfl (.tmp 12) (.tmp 39) 147 rfl w.heap.size 149 _ 2 32 Tryd.underlying147 infoPack3 rfl (by omega) _ k _ rfl O3.out _ 1 (flat [(x1 + x2, .slice A3 (l1.length + l2.length) cc3)]) rfl (Src.of_blk B3.out rfl) (flat_one (by simp [Value.oneCell'])) (by omega) (by omega) M3.out.size ?_
      intro v4 w4 ho4 hg4 hor4
      have O4 := Lib.hid ho4
      have M4 := Lib.hid (M3.out.grown hg4 M3.out.size (fun k hk => (HO.out.lt k hk).1))
      have S4 : Hid (∀ t ∈ z', Sym w4 t.2.1 t.2.2) := fun t ht => World.ownsRow.kept ((HS.out t ht).below L3.out) hg4 (own_apart ((HS.out t ht).below L3.out) O3.out (by decide))
      have Y4 := Lib.hid (World.ownsRow.kept Y3.out hg4 (own_apart Y3.out O3.out (by decide)))
      have N4 : Hid (∀ o v, wr.cell? ⟨g, o, none⟩ = some v → w4.cell? ⟨g, o, none⟩ = some v) := fun o v hv => by
        have h1 := (World.cell?_of_block (a := ⟨g, o, none⟩) (L3.out.block g hglt)).trans hv
        exact (World.cell?_of_block (a := ⟨g, o, none⟩) (hg4.block g (Nat.lt_of_lt_of_le hglt L3.out.size) (fun e => by have := (HO.out.lt g e.symm).1; omega))).trans h1
      clear ho4 hg4 hor4
      refine wpList_nil ?_
      refine ⟨⟨N4.out _ _ c1, N4.out _ _ c2, N4.out _ _ c3, N4.out _ _ c4⟩, ?_⟩
      (repeat (first | (refine qs_now (v := ?_) (by rfl) ?_ ?_; rotate_left 1; (· (intro w' hS; go_simp; (try (simp only [↓IntWalk.iteOmega]; go_simp)); (try simp (disch := omega) only [IntWalk.i64_in]); try with_reducible rfl)); simp only [Act.put, List.setIfInBounds_toArray, List.set_cons_zero, List.set_cons_succ]) | (refine qs_run (v := ?_) (by rfl) ?_ ?_; rotate_left 1; (· (intro j w' hS; go_simp; (try (simp only [↓IntWalk.iteOmega]; go_simp)); (try simp (disch := omega) only [IntWalk.i64_in]); try with_reducible rfl)); simp only [Act.put, List.setIfInBounds_toArray, List.set_cons_zero, List.set_cons_succ]) | (refine qs_skip (by rfl) ?_; simp only [Act.put, List.setIfInBounds_toArray, List.set_cons_zero, List.set_cons_succ])))
      refine qs_nil ?_
      clear c1 c2 c3 c4
      go_wp2
      go_roundw
      case rel =>
        have hi := HIk.out
        have e1 : z.take (2 * (k + 1)) = z.take (2 * k) ++ [(x1, .slice A1 l1.length cc1, l1), (x2, .slice A2 l2.length cc2, l2)] := by
          rw [show 2 * (k + 1) = 2 * k + 1 + 1 from by omega]
          have hl := HL.out
          rw [List.take_add_one, List.take_add_one, HT1.out, HT2.out]
          simp
        refine ⟨k + 1, z' ++ [(x1 + x2, .slice A3 (l1.length + l2.length) cc3, l1 ++ l2)], by have := HL.out; omega, by rw [hi]; go_num, ?_, ?_, ?_, ?_, M4.out⟩
        · have := O4.out
          rw [← flat_append] at this
          simpa [pvs] using this
        · intro t ht
          rcases List.mem_append.1 ht with ht | ht
          · exact S4.out t ht
          · obtain rfl : t = _ := by simpa using ht
            exact Y4.out
        · intro t ht
          rcases List.mem_append.1 ht with ht | ht
          · exact HFR.out t ht
          · obtain rfl : t = _ := by simpa using ht
            exact F2.out
        · rw [e1]
          have := pairsOf_snoc (aps (z.take (2 * k))) (x1, l1) (x2, l2) k (by have := HL.out; simp [aps]; omega)
          simp only [aps, List.map_append, List.map_cons, List.map_nil] at this ⊢
          rw [this]
          have h2 := HZ.out
          simp only [aps] at h2
          rw [h2]
      case measure => simp [intOf]; omega
    · have hlt' : ¬ ((2 * k : Nat) : Int) + 1 < n := by omega
      go_wp2
      go_ret
      have hl := HL.out
      refine ⟨_, z', rfl, ?_, HS.out, HFR.out, ?_, HBel.out⟩
      · rw [show z.length / 2 = k from by omega]; exact HO.out
      · rw [HZ.out]
        rcases Nat.lt_or_ge (2 * k) z.length with h' | h'
        · have e2 : z = z.take (2 * k) ++ [z[2 * k]] := by
            have := List.take_append_drop (2 * k) z
            rw [List.drop_eq_getElem_cons h', List.drop_eq_nil_of_le (by omega)] at this
            exact this.symm
          have := pairsOf_odd (aps (z.take (2 * k))) (z[2 * k].1, z[2 * k].2.2) k (by simp [aps]; omega)
          conv => rhs; rw [e2]
          simp only [aps, List.map_append, List.map_cons, List.map_nil] at this ⊢
          rw [this]
        · rw [List.take_of_length_le h']
end Go.Proofs.YtlhaehefhhcgaaaDoor
