/-
  peatbanklaw31.awake, walked.
-/
import Derived.Test.YtfehgpjnlkgekaaGreatDoorLnRefT
namespace Go.Proofs.YtfehgpjnlkgekaaGreatDoor
open Go.RowKit
set_option linter.unusedVariables false
set_option linter.unusedSimpArgs false

theorem rd_blk {k : IntKind} {w : World} {g n : Nat} {t : TypeId} (zs : List Int) {cs : Array Value} (h : Blk w g t cs) (hc : cs = (zs.map (Value.int k)).toArray) (hn : n = zs.length) : RdI k w (some ⟨g, 0, none⟩) n zs := by
  subst hn
  refine ⟨rfl, fun h0 => ⟨_, 0, rfl, h.lt, fun j hj => ?_⟩⟩
  rw [Nat.zero_add]
  refine h.cell ?_
  subst hc
  simp [hj]
theorem eqS_self (x : StepV) : eqS x x = true := (eqS_iff x x).2 rfl
theorem step_some {l : List UInt8} {y : StepV} {nb nf : Nat} (s : ByteArray) (w : World) (ht : LnT w) (hl : s.data.toList = l) (h : stepL l = some y) (hs : s.size ≤ 1048576) (h1 : y.bytes.length = nb) (h2 : y.fates.length = nf) :
    Calls Tryz.prog 6 #[.string s] w fun e w' => Below w.heap.size w w' ∧ ∃ A c A' c', e = .returned (.tuple #[.agg (stepVs y (.slice A nb c) (.slice A' nf c')), .int .i64 0]) ∧ RdI .u8 w' A nb y.bytes ∧ RdI .i64 w' A' nf y.fates := by
  refine (step_any s w ht hs).mono ?_
  rintro e w' ⟨hb, he⟩
  rw [hl, h] at he
  simp only at he
  obtain ⟨A, c, A', c', rfl, ho, hf⟩ := he
  subst h1 h2
  exact ⟨hb, A, c, A', c', rfl, RdI.of_own ho, RdI.of_own hf⟩
theorem step_none {l : List UInt8} (s : ByteArray) (w : World) (ht : LnT w) (hl : s.data.toList = l) (h : stepL l = none) (hs : s.size ≤ 1048576) :
    Calls Tryz.prog 6 #[.string s] w fun e w' => Below w.heap.size w w' ∧ e = .returned (.tuple #[.agg #[.int .u8 0, .int .i64 0, .int .i64 0, .int .i64 0, .slice none 0 0, .slice none 0 0], .int .i64 310]) := by
  refine (step_any s w ht hs).mono ?_
  rintro e w' ⟨hb, he⟩
  rw [hl, h] at he
  exact ⟨hb, he⟩
theorem ex2 : stepL [119, 114, 105, 116, 101, 32, 51, 32, 48, 48, 102, 102] = some ⟨2, 3, 0, 0, [0, 255], []⟩ := by kernel_rfl
theorem ex3 : stepL [99, 114, 97, 115, 104, 32, 53, 32, 55] = some ⟨10, 0, 0, 0, [], [5, 7]⟩ := by kernel_rfl
theorem ex4 : stepL [114, 101, 97, 100, 32, 49] = none := by kernel_rfl
theorem ex5 : stepL [114, 101, 97, 100, 32, 48, 49, 32, 49] = none := by kernel_rfl
theorem ex6 : stepL [119, 114, 105, 116, 101, 32, 51, 32, 70, 70] = none := by kernel_rfl
theorem ex7 : stepL [102, 108, 117, 115, 104, 32, 49] = none := by kernel_rfl
theorem ex8 : tellL 0 0 [0, 0, 0, 0, 0, 0, 0, 0, 0] [] [0, 255] = [111, 107, 32, 98, 121, 116, 101, 115, 32, 48, 48, 102, 102] := by kernel_rfl
theorem ex9 : tellL 12 0 [0, 0, 0, 0, 0, 0, 0, 0, 0] [] [] = [101, 114, 114, 111, 114, 32, 49, 50] := by kernel_rfl
theorem ex10 : tellL 0 0 [0, 0, 0, 0, 0, 0, 0, 0, 0] [] [] = [111, 107] := by kernel_rfl
set_option maxHeartbeats 800000 in
theorem refused_any {l : List UInt8} (s : ByteArray) (w : World) (ht : LnT w) (hl : s.data.toList = l) (h : stepL l = none) (hs : s.size ≤ 1048576) :
    Calls Tryz.prog 15 #[.string s] w fun e w' => e = .returned (.bool true) ∧ Below w.heap.size w w' := by
  have HT := Lib.hid ht
  have HL := Lib.hid hl
  have HN := Lib.hid h
  clear ht hl h
  go_enter Tryz.func15, Tryz.ntmps15
  go_wp2_with fail
  refine (step_none s w HT.out HL.out HN.out hs).mono ?_
  rintro ev w1 ⟨hb1, rfl⟩
  have L1 := Lib.hid hb1
  clear hb1
  go_wp2_with fail
  obtain ⟨w2, hw2⟩ : ∃ w2, w2 = w1.alloc (Obj.cells #[.int .u8 0, .int .i64 0, .int .i64 0, .int .i64 0, .slice none 0 0, .slice none 0 0] 27) := ⟨_, rfl⟩
  have L2 := Lib.hid (show Below w1.heap.size w1 w2 by rw [hw2]; exact (Below.refl _ _).alloc (Nat.le_refl _) _)
  rw [← hw2]
  clear hw2
  refine (same_step (zeroS 0) (zeroS 0) _ _ w2 ⟨none, 0, none, 0, rfl, RdI.nil _, RdI.nil _⟩ ⟨none, 0, none, 0, rfl, RdI.nil _, RdI.nil _⟩ (by decide) (by decide) (by decide) (by decide)).mono ?_
  rintro ev w3 ⟨rfl, hb3⟩
  rw [eqS_self]
  have L3 := Lib.hid (below_chain (below_chain L1.out L2.out) hb3)
  clear hb3
  go_wp2
  go_ret
  exact ⟨rfl, L3.out⟩
set_option maxRecDepth 100000 in
set_option maxHeartbeats 1600000 in
theorem awake_any (w : World) (ht : LnT w) : Calls Tryz.prog 5 #[] w fun e w' => e = .returned (.bool true) ∧ Below w.heap.size w w' := by
  have HT := Lib.hid ht
  clear ht
  go_enter Tryz.func5, Tryz.ntmps5
  go_wp2_with fail
  refine (step_some (nb := 2) (nf := 0) _ w HT.out rfl ex2 (by decide) rfl rfl).mono ?_
  rintro ev w1 ⟨hb1, A, c, A', c', rfl, hA, hA'⟩
  have L1 := Lib.hid hb1
  have RA := Lib.hid hA
  have RA' := Lib.hid hA'
  clear hb1 hA hA'
  unfold stepVs
  go_wp2_with fail
  obtain ⟨w2, hw2⟩ : ∃ w2, w2 = w1.alloc (Obj.cells #[.int .u8 2, .int .i64 3, .int .i64 0, .int .i64 0, .slice A 2 c, .slice A' 0 c'] 27) := ⟨_, rfl⟩
  have K2 := Lib.hid (show Blk w2 w1.heap.size 27 #[.int .u8 2, .int .i64 3, .int .i64 0, .int .i64 0, .slice A 2 c, .slice A' 0 c'] by rw [hw2]; exact Blk.made _ _ _)
  have B2 := Lib.hid (show Below w1.heap.size w1 w2 by rw [hw2]; exact (Below.refl _ _).alloc (Nat.le_refl _) _)
  have L2 := Lib.hid (below_chain L1.out B2.out)
  rw [← hw2]
  clear hw2
  refine (step_some (nb := 0) (nf := 2) _ w2 (HT.out.below L2.out) rfl ex3 (by decide) rfl rfl).mono ?_
  rintro ev w3 ⟨hb3, B, d, B', d', rfl, hB, hB'⟩
  have L3 := Lib.hid (below_chain L2.out hb3)
  have K3 := Lib.hid (K2.out.below hb3 K2.out.lt)
  have RA3 := Lib.hid ((RA.out.below B2.out).below hb3)
  have RA3' := Lib.hid ((RA'.out.below B2.out).below hb3)
  have RB := Lib.hid hB
  have RB' := Lib.hid hB'
  clear hb3 hB hB' K2 RA RA'
  have x0 := cell_al (K3.out.cell (i := 0) rfl)
  have x1 := cell_al (K3.out.cell (i := 1) rfl)
  have x2 := cell_al (K3.out.cell (i := 2) rfl)
  have x3 := cell_al (K3.out.cell (i := 3) rfl)
  have x4 := cell_al (K3.out.cell (i := 4) rfl)
  have x5 := cell_al (K3.out.cell (i := 5) rfl)
  unfold stepVs
  go_wp2_with fail
  obtain ⟨w4, hw4⟩ : ∃ w4, w4 = (w3.alloc (Obj.cells #[.int .u8 10, .int .i64 0, .int .i64 0, .int .i64 0, .slice B 0 d, .slice B' 2 d'] 27)).alloc (Obj.cells #[.int .u8 0, .int .u8 255] 5) := ⟨_, rfl⟩
  have K4 := Lib.hid (show Blk w4 w3.heap.size 27 #[.int .u8 10, .int .i64 0, .int .i64 0, .int .i64 0, .slice B 0 d, .slice B' 2 d'] by rw [hw4]; exact (Blk.made _ _ _).alloc _)
  have J4 := Lib.hid (rd_blk (k := .u8) (n := 2) [0, 255] (show Blk w4 (w3.heap.size + 1) 5 #[.int .u8 0, .int .u8 255] by rw [hw4]; exact Blk.made_at _ _ _ (by simp)) rfl rfl)
  have B4 := Lib.hid (show Below w3.heap.size w3 w4 by rw [hw4]; exact (((Below.refl _ _).alloc (Nat.le_refl _) _).alloc (by simp) _))
  have L4 := Lib.hid (below_chain L3.out B4.out)
  rw [← hw4]
  clear hw4 x0 x1 x2 x3 x4 x5
  refine (same_step ⟨2, 3, 0, 0, [0, 255], []⟩ ⟨2, 3, 0, 0, [0, 255], []⟩ _ _ w4 ⟨A, c, A', c', rfl, RA3.out.below B4.out, RA3'.out.below B4.out⟩ ⟨_, 2, none, 0, rfl, J4.out, RdI.nil _⟩ (by decide) (by decide) (by decide) (by decide)).mono ?_
  rintro ev w5 ⟨rfl, hb5⟩
  rw [eqS_self]
  have L5 := Lib.hid (below_chain L4.out hb5)
  have K5 := Lib.hid (K4.out.below hb5 K4.out.lt)
  have RB5 := Lib.hid ((RB.out.below B4.out).below hb5)
  have RB5' := Lib.hid ((RB'.out.below B4.out).below hb5)
  clear hb5 RA3 RA3' J4 K4 K3
  have x0 := K5.out.cell (i := 0) rfl
  have x1 := K5.out.cell (i := 1) rfl
  have x2 := K5.out.cell (i := 2) rfl
  have x3 := K5.out.cell (i := 3) rfl
  have x4 := K5.out.cell (i := 4) rfl
  have x5 := K5.out.cell (i := 5) rfl
  go_wp2_with fail
  obtain ⟨w6, hw6⟩ : ∃ w6, w6 = w5.alloc (Obj.cells #[.int .i64 5, .int .i64 7] 50) := ⟨_, rfl⟩
  have J6 := Lib.hid (rd_blk (k := .i64) (n := 2) [5, 7] (show Blk w6 w5.heap.size 50 #[.int .i64 5, .int .i64 7] by rw [hw6]; exact Blk.made _ _ _) rfl rfl)
  have B6 := Lib.hid (show Below w5.heap.size w5 w6 by rw [hw6]; exact ((Below.refl _ _).alloc (Nat.le_refl _) _))
  have L6 := Lib.hid (below_chain L5.out B6.out)
  rw [← hw6]
  clear hw6 x0 x1 x2 x3 x4 x5
  refine (same_step ⟨10, 0, 0, 0, [], [5, 7]⟩ ⟨10, 0, 0, 0, [], [5, 7]⟩ _ _ w6 ⟨B, d, B', d', rfl, RB5.out.below B6.out, RB5'.out.below B6.out⟩ ⟨none, 0, _, 2, rfl, RdI.nil _, J6.out⟩ (by decide) (by decide) (by decide) (by decide)).mono ?_
  rintro ev w7 ⟨rfl, hb7⟩
  rw [eqS_self]
  have L7 := Lib.hid (below_chain L6.out hb7)
  clear hb7 RB5 RB5' J6 RB RB' L6 L5 L4 L3 L2 L1 B2 B4 B6 K5
  go_wp2_with fail
  refine (refused_any _ w7 (HT.out.below L7.out) rfl ex4 (by decide)).mono ?_
  rintro ev w8 ⟨rfl, hb⟩
  have L8 := Lib.hid (below_chain L7.out hb)
  clear hb L7
  go_wp2_with fail
  refine (refused_any _ w8 (HT.out.below L8.out) rfl ex5 (by decide)).mono ?_
  rintro ev w9 ⟨rfl, hb⟩
  have L9 := Lib.hid (below_chain L8.out hb)
  clear hb L8
  go_wp2_with fail
  refine (refused_any _ w9 (HT.out.below L9.out) rfl ex6 (by decide)).mono ?_
  rintro ev w10 ⟨rfl, hb⟩
  have L10 := Lib.hid (below_chain L9.out hb)
  clear hb L9
  go_wp2_with fail
  refine (refused_any _ w10 (HT.out.below L10.out) rfl ex7 (by decide)).mono ?_
  rintro ev w11 ⟨rfl, hb⟩
  have L11 := Lib.hid (below_chain L10.out hb)
  clear hb L10
  go_wp2_with fail
  obtain ⟨w12, hw12⟩ : ∃ w12, w12 = w11.alloc (Obj.cells #[.int .u8 0, .int .u8 255] 5) := ⟨_, rfl⟩
  have J12 := Lib.hid (rd_blk (k := .u8) (n := 2) [0, 255] (show Blk w12 w11.heap.size 5 #[.int .u8 0, .int .u8 255] by rw [hw12]; exact Blk.made _ _ _) rfl rfl)
  have L12 := Lib.hid (below_chain L11.out (show Below w11.heap.size w11 w12 by rw [hw12]; exact ((Below.refl _ _).alloc (Nat.le_refl _) _)))
  rw [← hw12]
  clear hw12 L11
  have i0 : ∀ z ∈ ([0, 0, 0, 0, 0, 0, 0, 0, 0] : List Int), i64b z := by unfold i64b; decide
  have HI0 := Lib.hid i0
  clear i0
  refine (tell_any 0 0 [0, 255] _ none 2 2 0 0 0 0 0 0 0 0 0 0 0 [] w12 J12.out (RdI.nil _) (HT.out.below L12.out) (by unfold By; decide) (fun _ h => by cases h) (by unfold i64b; decide) (by unfold i64b; decide) HI0.out (by decide) (by decide)).mono ?_
  rintro ev w13 ⟨rfl, hb⟩
  rw [ex8]
  have L13 := Lib.hid (below_chain L12.out hb)
  clear hb L12 J12
  go_wp2_with fail
  refine (tell_any 12 0 [] none none 0 0 0 0 0 0 0 0 0 0 0 0 0 [] w13 (RdI.nil _) (RdI.nil _) (HT.out.below L13.out) (by unfold By; decide) (fun _ h => by cases h) (by unfold i64b; decide) (by unfold i64b; decide) HI0.out (by decide) (by decide)).mono ?_
  rintro ev w14 ⟨rfl, hb⟩
  rw [ex9]
  have L14 := Lib.hid (below_chain L13.out hb)
  clear hb L13
  go_wp2_with fail
  refine (tell_any 0 0 [] none none 0 0 0 0 0 0 0 0 0 0 0 0 0 [] w14 (RdI.nil _) (RdI.nil _) (HT.out.below L14.out) (by unfold By; decide) (fun _ h => by cases h) (by unfold i64b; decide) (by unfold i64b; decide) HI0.out (by decide) (by decide)).mono ?_
  rintro ev w15 ⟨rfl, hb⟩
  rw [ex10]
  have L15 := Lib.hid (below_chain L14.out hb)
  clear hb L14
  go_wp2
  go_ret
  exact ⟨rfl, L15.out⟩
end Go.Proofs.YtfehgpjnlkgekaaGreatDoor
