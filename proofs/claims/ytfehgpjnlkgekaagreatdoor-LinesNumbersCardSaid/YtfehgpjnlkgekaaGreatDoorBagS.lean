/-
  peatbankkit.ApartSteps: steps, each alone in a row, lie apart. (printed by genbag3.py)
-/
import Derived.Test.YtfehgpjnlkgekaaGreatDoorFlat0
import Derived.Test.YtfehgpjnlkgekaaGreatDoorFlatF
import Derived.Test.YtfehgpjnlkgekaaGreatDoorFlatS
namespace Go.Proofs.YtfehgpjnlkgekaaGreatDoor
open Go.RowKit
set_option linter.unusedVariables false
set_option linter.unusedSimpArgs false

/-- A bag of bytes, fates, steps. -/
def Bag3 (w : World) (B : Nat) (vb vf vs : Value) : Prop := Blk w B 90 #[.slice none 0 0, .slice none 0 0, .slice none 0 0, .slice none 0 0, .slice none 0 0, vb, .slice none 0 0, .slice none 0 0, vf, .slice none 0 0, .slice none 0 0, .slice none 0 0, .slice none 0 0, .slice none 0 0, .slice none 0 0, .slice none 0 0, .slice none 0 0, .slice none 0 0, vs, .slice none 0 0, .slice none 0 0]
def Kp2 (t1 t2 : TypeId) (w w' : World) : Prop := ∀ g t cs, Blk w g t cs → t ≠ t1 → t ≠ t2 → Blk w' g t cs
theorem own_kp2 {w w' : World} {base n sz : Nat} {e t1 t2 : TypeId} {v : Value} {xs : List Value} (h : w.ownsRow base e sz v n xs) (hk : Kp2 t1 t2 w w') (h1 : e ≠ t1) (h2 : e ≠ t2) : w'.ownsRow base e sz v n xs := by
  refine ⟨h.1, h.2.imp id ?_⟩
  rintro ⟨g, cap, cur, e1, a1, a2, r⟩
  exact ⟨g, cap, cur, e1, a1, hk g e cur a2 h1 h2, r⟩
set_option maxHeartbeats 1600000 in
theorem putBytes3 (B n : Nat) (vb vf vs : Value) (xs : List Value) (A : Option Addr) (l c : Nat) (w : World) (hB : Bag3 w B vb vf vs) (ho : w.ownsRow B 24 1 vb n xs) (hn : n ≤ 1000) :
    Calls Tryz.prog 83 #[.pointer (some ⟨B, 0, none⟩), .slice A l c] w fun ev w' => ∃ v, ev = .returned (.tuple #[]) ∧ Bag3 w' B v vf vs ∧ w'.ownsRow B 24 1 v (n + 1) (xs ++ [.slice A l c]) ∧ Below B w w' ∧ Kp2 90 24 w w' := by
  have HB := Lib.hid hB
  have O := Lib.hid ho
  obtain ⟨Av, cv, hv, _⟩ := own_slice ho
  subst hv
  have c5 := HB.out.cell (i := 5) (v := .slice Av n cv) rfl
  have hlt := HB.out.lt
  clear hB ho
  go_enter Tryz.func83, Tryz.ntmps83
  go_wp2_with (refine app_src rfl (.tmp 8) (.tmp 10) 74 rfl B 24 _ 1 24 Tryz.underlying74 infoRow8 rfl (by omega) _ n _ rfl (O.out.alloc _) _ 1 [.slice A l c] rfl (src8 _ _ _) (by simp [Value.oneCell']) (by omega) (by omega) (by simp; omega) ?_; intro v2 w2 ho2 hg2 hor2; obtain ⟨A2, c2, hv2, _⟩ := own_slice ho2; subst hv2; have hB2 : Bag3 w2 B (.slice Av n cv) vf vs := ((HB.out.alloc _).grown hg2 (fun e => row_ne8 (HB.out.alloc (.cells #[.slice A l c] 24)) (O.out.alloc _) (by decide) e.symm)); have d5 := hB2.cell (i := 5) (v := .slice Av n cv) rfl; have f5 := hB2.free 5; have B2 := Lib.hid hB2; have O2 := Lib.hid ho2; have G2 := Lib.hid hg2; clear ho2 hg2 hor2 hB2)
  go_end0
  have hp := grown_put w2 ⟨B, 5, none⟩ (.slice A2 (n + 1) c2)
  refine ⟨.slice A2 (n + 1) c2, rfl, ?_, own_keptG O2.out hp (fun b hb => by injection hb with hb; subst hb; exact row_neG B2.out O2.out (by decide)), ?_, ?_⟩
  · have := B2.out.put 5 (.slice A2 (n + 1) c2)
    simpa [Bag3] using this
  · have h1 : Below B w (w.alloc (.cells #[.slice A l c] 24)) := (Below.refl _ _).alloc (by omega) _
    exact below_put (h1.grown G2.out (by have := h1.size; omega) (fun b hb => (O.out.lt b hb).1)) _ _ (Nat.le_refl _)
  · intro g t cs hg h1 h2
    refine ((hg.alloc _).grown G2.out (fun e => row_neG (hg.alloc (.cells #[.slice A l c] 24)) (O.out.alloc _) h2 e.symm)).else_ ?_ _
    intro e
    have h3 : Blk w B t cs := by
      have h5 := hg
      rwa [show g = B from e] at h5
    have h4 := HB.out
    unfold Bag3 at h4
    unfold Blk at h3 h4
    rw [h3] at h4
    injection h4 with h4
    injection h4 with _ h4
    exact h1 h4
set_option maxHeartbeats 1600000 in
theorem putFates3 (B n : Nat) (vb vf vs : Value) (xs : List Value) (A : Option Addr) (l c : Nat) (w : World) (hB : Bag3 w B vb vf vs) (ho : w.ownsRow B 25 1 vf n xs) (hn : n ≤ 1000) :
    Calls Tryz.prog 84 #[.pointer (some ⟨B, 0, none⟩), .slice A l c] w fun ev w' => ∃ v, ev = .returned (.tuple #[]) ∧ Bag3 w' B vb v vs ∧ w'.ownsRow B 25 1 v (n + 1) (xs ++ [.slice A l c]) ∧ Below B w w' ∧ Kp2 90 25 w w' := by
  have HB := Lib.hid hB
  have O := Lib.hid ho
  obtain ⟨Av, cv, hv, _⟩ := own_slice ho
  subst hv
  have c5 := HB.out.cell (i := 8) (v := .slice Av n cv) rfl
  have hlt := HB.out.lt
  clear hB ho
  go_enter Tryz.func84, Tryz.ntmps84
  go_wp2_with (refine app_src rfl (.tmp 8) (.tmp 10) 77 rfl B 25 _ 1 24 Tryz.underlying77 infoRowF rfl (by omega) _ n _ rfl (O.out.alloc _) _ 1 [.slice A l c] rfl (src8 _ _ _) (by simp [Value.oneCell']) (by omega) (by omega) (by simp; omega) ?_; intro v2 w2 ho2 hg2 hor2; obtain ⟨A2, c2, hv2, _⟩ := own_slice ho2; subst hv2; have hB2 : Bag3 w2 B vb (.slice Av n cv) vs := ((HB.out.alloc _).grown hg2 (fun e => row_ne8 (HB.out.alloc (.cells #[.slice A l c] 25)) (O.out.alloc _) (by decide) e.symm)); have d5 := hB2.cell (i := 8) (v := .slice Av n cv) rfl; have f5 := hB2.free 8; have B2 := Lib.hid hB2; have O2 := Lib.hid ho2; have G2 := Lib.hid hg2; clear ho2 hg2 hor2 hB2)
  go_end0
  have hp := grown_put w2 ⟨B, 8, none⟩ (.slice A2 (n + 1) c2)
  refine ⟨.slice A2 (n + 1) c2, rfl, ?_, own_keptG O2.out hp (fun b hb => by injection hb with hb; subst hb; exact row_neG B2.out O2.out (by decide)), ?_, ?_⟩
  · have := B2.out.put 8 (.slice A2 (n + 1) c2)
    simpa [Bag3] using this
  · have h1 : Below B w (w.alloc (.cells #[.slice A l c] 25)) := (Below.refl _ _).alloc (by omega) _
    exact below_put (h1.grown G2.out (by have := h1.size; omega) (fun b hb => (O.out.lt b hb).1)) _ _ (Nat.le_refl _)
  · intro g t cs hg h1 h2
    refine ((hg.alloc _).grown G2.out (fun e => row_neG (hg.alloc (.cells #[.slice A l c] 25)) (O.out.alloc _) h2 e.symm)).else_ ?_ _
    intro e
    have h3 : Blk w B t cs := by
      have h5 := hg
      rwa [show g = B from e] at h5
    have h4 := HB.out
    unfold Bag3 at h4
    unfold Blk at h3 h4
    rw [h3] at h4
    injection h4 with h4
    injection h4 with _ h4
    exact h1 h4
theorem LAtG.blk {RE E : TypeId} {w w' : World} {L K : Nat} {V : Nat → Value} (h : LAtG RE w L K V) (hk : ∀ g t cs, Blk w g t cs → t ≠ E → Blk w' g t cs) (hne : RE ≠ E) : LAtG RE w' L K V := by
  obtain ⟨cs, h1, h2⟩ := h
  exact ⟨cs, hk _ _ _ h1 hne, h2⟩
theorem own_blk {w w' : World} {base n sz : Nat} {e E : TypeId} {v : Value} {xs : List Value} (h : w.ownsRow base e sz v n xs) (hk : ∀ g t cs, Blk w g t cs → t ≠ E → Blk w' g t cs) (h1 : e ≠ E) : w'.ownsRow base e sz v n xs := by
  refine ⟨h.1, h.2.imp id ?_⟩
  rintro ⟨g, cap, cur, e1, a1, a2, r⟩
  exact ⟨g, cap, cur, e1, a1, hk g e cur a2 h1, r⟩
theorem FamG.blk {e E : TypeId} {sz : Nat} {w w' : World} {base K : Nat} {V : Nat → Value} {n : Nat → Nat} {X : Nat → List Value} (h : FamG e sz w base K V n X) (hk : ∀ g t cs, Blk w g t cs → t ≠ E → Blk w' g t cs) (hne : e ≠ E) : FamG e sz w' base K V n X := fun k hkK => own_blk (h k hkK) hk hne
theorem cell_low2 {w w' : World} {B g j : Nat} {v : Value} (h : w.cell? ⟨g, j, none⟩ = some v) (hb : Below B w w') (hg : g < B) : w'.cell? ⟨g, j, none⟩ = some v := by
  rw [← h]
  unfold World.cell?
  rw [show (⟨g, j, none⟩ : Addr).block = g from rfl, hb.block g hg]
/-- The bag and its three lists. -/
def AllB (w : World) (B : Nat) (n m : Nat) (xb xf xs : List Value) : Prop := ∃ vb vf vs, Bag3 w B vb vf vs ∧ w.ownsRow B 24 1 vb n xb ∧ w.ownsRow B 25 1 vf n xf ∧ w.ownsRow B 33 1 vs m xs
set_option maxHeartbeats 1600000 in
theorem oneStep3 (B n m : Nat) (xb xf xs : List Value) (a0 a1 a2 a3 : Value) (A A' : Option Addr) (l c l' c' : Nat) (w : World) (h : AllB w B n m xb xf xs) (hn : n ≤ 1000) :
    Calls Tryz.prog 45 #[.pointer (some ⟨B, 0, none⟩), .agg #[a0, a1, a2, a3, .slice A l c, .slice A' l' c']] w fun ev w' => ev = .returned (.tuple #[]) ∧ AllB w' B (n + 1) m (xb ++ [.slice A l c]) (xf ++ [.slice A' l' c']) xs ∧ Below B w w' := by
  obtain ⟨vb, vf, vs, hB, hb, hf, hs⟩ := h
  have hlt := hB.lt
  have HB := Lib.hid hB
  have Hb := Lib.hid hb
  have Hf := Lib.hid hf
  have Hs := Lib.hid hs
  clear hB hb hf hs
  go_enter Tryz.func45, Tryz.ntmps45
  go_wp2_with fail
  obtain ⟨wa, hwa⟩ : ∃ wa, wa = w.alloc (Obj.cells #[a0, a1, a2, a3, .slice A l c, .slice A' l' c'] 27) := ⟨_, rfl⟩
  have Ka := Lib.hid (show Blk wa w.heap.size 27 #[a0, a1, a2, a3, .slice A l c, .slice A' l' c'] by rw [hwa]; exact Blk.made _ _ _)
  have La := Lib.hid (show Below B w wa by rw [hwa]; exact (Below.refl _ _).alloc (by omega) _)
  have Ba := Lib.hid (show Bag3 wa B vb vf vs by rw [hwa]; exact HB.out.alloc _)
  have ba := Lib.hid (show wa.ownsRow B 24 1 vb n xb by rw [hwa]; exact Hb.out.alloc _)
  have fa := Lib.hid (show wa.ownsRow B 25 1 vf n xf by rw [hwa]; exact Hf.out.alloc _)
  have sa := Lib.hid (show wa.ownsRow B 33 1 vs m xs by rw [hwa]; exact Hs.out.alloc _)
  rw [← hwa]
  clear hwa HB Hb Hf Hs
  refine (putBytes3 B n vb vf vs xb A l c wa Ba.out ba.out hn).mono ?_
  rintro ev w2 ⟨v2, rfl, hB2, ho2, hl2, hk2⟩
  have K2 := Lib.hid (hk2 _ _ _ Ka.out (by decide) (by decide))
  have B2 := Lib.hid hB2
  have O2 := Lib.hid ho2
  have f2 := Lib.hid (own_kp2 fa.out hk2 (by decide) (by decide))
  have s2 := Lib.hid (own_kp2 sa.out hk2 (by decide) (by decide))
  have L2 := Lib.hid (La.out.trans hl2)
  have x5 := K2.out.cell (i := 5) (v := .slice A' l' c') rfl
  clear hB2 ho2 hl2 hk2
  go_wp2_with fail
  refine (putFates3 B n v2 vf vs xf A' l' c' w2 B2.out f2.out hn).mono ?_
  rintro ev w3 ⟨v3, rfl, hB3, ho3, hl3, hk3⟩
  go_wp2
  go_end0
  exact ⟨rfl, ⟨v2, v3, vs, hB3, own_kp2 O2.out hk3 (by decide) (by decide), ho3, own_kp2 s2.out hk3 (by decide) (by decide)⟩, L2.out.trans hl3⟩
def PsI (B n : Nat) (xb xf xs : List Value) (sb sf : Value) (w : World) (k : Nat) (iv : Value) (wr : World) : Prop :=
  Below B w wr ∧ ((k = 1 ∧ iv = .int .i64 0 ∧ AllB wr B n (n + 1) xb xf xs) ∨ (k = 0 ∧ iv = .int .i64 1 ∧ AllB wr B (n + 1) (n + 1) (xb ++ [sb]) (xf ++ [sf]) xs))
set_option maxHeartbeats 1600000 in
theorem putSteps3 (B n : Nat) (xb xf xs : List Value) (a0 a1 a2 a3 : Value) (A A' : Option Addr) (l c l' c' g cg : Nat) (w : World) (h : AllB w B n n xb xf xs) (hg : g < B) (cells : ∀ j v, [a0, a1, a2, a3, .slice A l c, .slice A' l' c'][j]? = some v → w.cell? ⟨g, j, none⟩ = some v) (hn : n ≤ 1000) (hcg : 1 ≤ cg) :
    Calls Tryz.prog 25 #[.pointer (some ⟨B, 0, none⟩), .slice (some ⟨g, 0, none⟩) 1 cg] w fun ev w' => ev = .returned (.tuple #[]) ∧ AllB w' B (n + 1) (n + 1) (xb ++ [.slice A l c]) (xf ++ [.slice A' l' c']) (xs ++ [.slice (some ⟨g, 0, none⟩) 1 cg]) ∧ Below B w w' := by
  obtain ⟨vb, vf, vs, hB, hb, hf, hs⟩ := h
  have hlt := hB.lt
  have HB := Lib.hid hB
  have Hb := Lib.hid hb
  have Hf := Lib.hid hf
  have O := Lib.hid hs
  obtain ⟨Av, cv, hv, _⟩ := own_slice hs
  subst hv
  have c5 := HB.out.cell (i := 18) (v := .slice Av n cv) rfl
  have HC := Lib.hid cells
  clear hB hb hf hs cells
  go_enter Tryz.func25, Tryz.ntmps25
  go_wp2_with (refine app_src rfl (.tmp 9) (.tmp 11) 34 rfl B 33 _ 1 24 Tryz.underlying34 infoRowS rfl (by omega) _ n _ rfl (O.out.alloc _) _ 1 [.slice (some ⟨g, 0, none⟩) 1 cg] rfl (src8 _ _ _) (by simp [Value.oneCell']) (by omega) (by omega) (by simp; omega) ?_; intro v2 w2 ho2 hg2 hor2; obtain ⟨A2, c2, hv2, _⟩ := own_slice ho2; subst hv2; have hB2 : Bag3 w2 B vb vf (.slice Av n cv) := ((HB.out.alloc _).grown hg2 (fun e => row_ne8 (HB.out.alloc (.cells #[.slice (some ⟨g, 0, none⟩) 1 cg] 33)) (O.out.alloc _) (by decide) e.symm)); have d5 := hB2.cell (i := 18) (v := .slice Av n cv) rfl; have f5 := hB2.free 18; have B2 := Lib.hid hB2; have O2 := Lib.hid ho2; have G2 := Lib.hid hg2; clear ho2 hg2 hor2 hB2)
  have hp := grown_put w2 ⟨B, 18, none⟩ (.slice A2 (n + 1) c2)
  have L1 : Below B w (w.alloc (.cells #[.slice (some ⟨g, 0, none⟩) 1 cg] 33)) := (Below.refl _ _).alloc (by omega) _
  have L3 := Lib.hid (below_put (L1.grown G2.out (by have := L1.size; omega) (fun b hb => (O.out.lt b hb).1)) ⟨B, 18, none⟩ (.slice A2 (n + 1) c2) (Nat.le_refl _))
  have S3 := Lib.hid (own_keptG O2.out hp (fun b hb => by injection hb with hb; subst hb; exact row_neG B2.out O2.out (by decide)))
  have B3 : Hid (Bag3 (w2.setCell ⟨B, 18, none⟩ (.slice A2 (n + 1) c2)) B vb vf (.slice A2 (n + 1) c2)) := Lib.hid (by
    have := B2.out.put 18 (.slice A2 (n + 1) c2)
    simpa [Bag3] using this)
  have kp : ∀ t v (x : List Value), w.ownsRow B t 1 v n x → t ≠ 33 → t ≠ 90 → (w2.setCell ⟨B, 18, none⟩ (.slice A2 (n + 1) c2)).ownsRow B t 1 v n x := fun t v x hx h1 h2 =>
    own_keptG (own_keptG (hx.alloc _) G2.out (fun b hb he => by
      rcases (O.out.alloc (.cells #[.slice (some ⟨g, 0, none⟩) 1 cg] 33)).2 with ⟨e0, _⟩ | ⟨g', cap, cur, e0, b1, b2, _⟩
      · rw [e0] at hb; cases hb
      · injection e0 with e0
        subst e0
        injection hb with hb
        subst hb
        exact row_neG (show Blk _ g' 33 cur from b2) (hx.alloc _) (fun e => h1 e.symm) he)) hp (fun b hb he => by
      injection hb with hb
      subst hb
      refine row_neG B2.out (own_keptG (hx.alloc _) G2.out (fun b hb he => ?_)) (fun e => h2 e.symm) he
      rcases (O.out.alloc (.cells #[.slice (some ⟨g, 0, none⟩) 1 cg] 33)).2 with ⟨e0, _⟩ | ⟨g', cap, cur, e0, b1, b2, _⟩
      · rw [e0] at hb; cases hb
      · injection e0 with e0
        subst e0
        injection hb with hb
        subst hb
        exact row_neG (show Blk _ g' 33 cur from b2) (hx.alloc _) (fun e => h1 e.symm) he)
  have b3 := Lib.hid (kp _ _ _ Hb.out (by decide) (by decide))
  have F3 := Lib.hid (kp _ _ _ Hf.out (by decide) (by decide))
  clear hp kp L1 G2 d5 f5 B2 O2 O HB Hb Hf c5
  generalize w2.setCell ⟨B, 18, none⟩ (.slice A2 (n + 1) c2) = w3 at *
  go_loopg [4] 1 (PsI B n xb xf (xs ++ [.slice (some ⟨g, 0, none⟩) 1 cg]) (.slice A l c) (.slice A' l' c') w)
  case atStart => exact ⟨L3.out, .inl ⟨rfl, rfl, vb, vf, _, B3.out, b3.out, F3.out, S3.out⟩⟩
  case round =>
    clear L3 B3 b3 F3 S3
    obtain ⟨hbw, hcase⟩ := hrel
    have BW := Lib.hid hbw
    clear hbw
    rcases hcase with ⟨hk, rfl, hall⟩ | ⟨hk, rfl, hall⟩
    · have AB := Lib.hid hall
      clear hall
      have w0 := (HC.out 0 _ rfl)
      have w1 := (HC.out 1 _ rfl)
      have w2 := (HC.out 2 _ rfl)
      have w3 := (HC.out 3 _ rfl)
      have w4 := (HC.out 4 _ rfl)
      have w5 := (HC.out 5 _ rfl)
      have low : ∀ j v, w.cell? ⟨g, j, none⟩ = some v → wr.cell? ⟨g, j, none⟩ = some v := fun j v h => cell_low2 h BW.out hg
      replace w0 := low _ _ w0
      replace w1 := low _ _ w1
      replace w2 := low _ _ w2
      replace w3 := low _ _ w3
      replace w4 := low _ _ w4
      replace w5 := low _ _ w5
      clear low
      go_wp2_with fail
      refine (oneStep3 B n (n + 1) xb xf _ a0 a1 a2 a3 A A' l c l' c' wr AB.out hn).mono ?_
      rintro ev w6 ⟨rfl, hall, hb6⟩
      have A6 := Lib.hid hall
      have L6 := Lib.hid (BW.out.trans hb6)
      clear hall hb6
      go_wp2
      go_roundg (gk - 1)
      case measure => omega
      case rel => exact ⟨L6.out, .inr ⟨by omega, by go_num, A6.out⟩⟩
    · go_wp2
      go_end0
      exact ⟨rfl, hall, BW.out⟩
/-- A row that holds one step. -/
def OneS (w : World) (g : Nat) (sb sf : Value) : Prop := ∃ a0 a1 a2 a3 A A' l c l' c', sb = .slice A l c ∧ sf = .slice A' l' c' ∧ ∀ j v, [a0, a1, a2, a3, .slice A l c, .slice A' l' c'][j]? = some v → w.cell? ⟨g, j, none⟩ = some v
set_option maxHeartbeats 3200000 in
set_option maxRecDepth 100000 in
theorem apart3 (w : World) (B base Lb cb Lf cf Ls cs K : Nat) (Vb Vf Vs : Nat → Value) (nb nf : Nat → Nat) (Xb : Nat → List Int) (Xf Xs : Nat → List Value) (hB : Bag3 w B (.slice (some ⟨Lb, 0, none⟩) K cb) (.slice (some ⟨Lf, 0, none⟩) K cf) (.slice (some ⟨Ls, 0, none⟩) K cs))
    (hLb : LAt w Lb K Vb) (hLf : LAtG 25 w Lf K Vf) (hLs : LAtG 33 w Ls K Vs) (hFb : Fam w base K Vb nb Xb) (hFf : FamG 50 1 w base K Vf nf Xf) (hFs : FamG 27 6 w base K Vs (fun _ => 1) Xs) (hAb : Apt K Vb Vb) (hAf : Apt K Vf Vf) (hAs : Apt K Vs Vs) (hK : K ≤ 1000) (hnb : ∀ k, k < K → nb k ≤ 1000000000) (hnf : ∀ k, k < K → nf k ≤ 1000000000) (hb : base ≤ w.heap.size) :
    Calls Tryz.prog 26 #[.pointer (some ⟨B, 0, none⟩)] w fun e w' => e = .returned (.bool true) ∧ Below base w w' := by
  have K0 := Lib.hid hB
  have S0 := Lib.hid (show Below base w w from Below.refl _ _)
  have P0 := Lib.hid hLb
  have Q0 := Lib.hid hLf
  have R0 := Lib.hid hLs
  have X0 := Lib.hid hFb
  have Y0 := Lib.hid hFf
  have Z0 := Lib.hid hFs
  have q0 := hB.cell (i := 0) (v := .slice none 0 0) rfl
  clear hB hLb hLf hLs hFb hFf hFs
  go_enter Tryz.func26, Tryz.ntmps26
  go_wp2_with fail
  refine (flatLimbs_nil w).mono ?_
  rintro ev w1 ⟨rfl, hb1⟩
  have S1 := Lib.hid (S0.out.trans (hb1.mono (Nat.le_trans hb S0.out.size)))
  have K1 := Lib.hid (K0.out.below hb1 K0.out.lt)
  have P1 := Lib.hid (P0.out.below hb1)
  have X1 := Lib.hid (X0.out.below hb1)
  have Q1 := Lib.hid (Q0.out.below hb1)
  have Y1 := Lib.hid (Y0.out.below hb1)
  have R1 := Lib.hid (R0.out.below hb1)
  have Z1 := Lib.hid (Z0.out.below hb1)
  have q1 := K1.out.cell (i := 1) (v := .slice none 0 0) rfl
  clear hb1 q0 S0 K0 P0 X0 Q0 Y0 R0 Z0
  go_wp2_with fail
  refine (flatWords_nil w1).mono ?_
  rintro ev w2 ⟨rfl, hb2⟩
  have S2 := Lib.hid (S1.out.trans (hb2.mono (Nat.le_trans hb S1.out.size)))
  have K2 := Lib.hid (K1.out.below hb2 K1.out.lt)
  have P2 := Lib.hid (P1.out.below hb2)
  have X2 := Lib.hid (X1.out.below hb2)
  have Q2 := Lib.hid (Q1.out.below hb2)
  have Y2 := Lib.hid (Y1.out.below hb2)
  have R2 := Lib.hid (R1.out.below hb2)
  have Z2 := Lib.hid (Z1.out.below hb2)
  have q2 := K2.out.cell (i := 2) (v := .slice none 0 0) rfl
  clear hb2 q1 S1 K1 P1 X1 Q1 Y1 R1 Z1
  go_wp2_with fail
  refine (flatInts_nil w2).mono ?_
  rintro ev w3 ⟨rfl, hb3⟩
  have S3 := Lib.hid (S2.out.trans (hb3.mono (Nat.le_trans hb S2.out.size)))
  have K3 := Lib.hid (K2.out.below hb3 K2.out.lt)
  have P3 := Lib.hid (P2.out.below hb3)
  have X3 := Lib.hid (X2.out.below hb3)
  have Q3 := Lib.hid (Q2.out.below hb3)
  have Y3 := Lib.hid (Y2.out.below hb3)
  have R3 := Lib.hid (R2.out.below hb3)
  have Z3 := Lib.hid (Z2.out.below hb3)
  have q3 := K3.out.cell (i := 3) (v := .slice none 0 0) rfl
  clear hb3 q2 S2 K2 P2 X2 Q2 Y2 R2 Z2
  go_wp2_with fail
  refine (flatLongs_nil w3).mono ?_
  rintro ev w4 ⟨rfl, hb4⟩
  have S4 := Lib.hid (S3.out.trans (hb4.mono (Nat.le_trans hb S3.out.size)))
  have K4 := Lib.hid (K3.out.below hb4 K3.out.lt)
  have P4 := Lib.hid (P3.out.below hb4)
  have X4 := Lib.hid (X3.out.below hb4)
  have Q4 := Lib.hid (Q3.out.below hb4)
  have Y4 := Lib.hid (Y3.out.below hb4)
  have R4 := Lib.hid (R3.out.below hb4)
  have Z4 := Lib.hid (Z3.out.below hb4)
  have q4 := K4.out.cell (i := 4) (v := .slice none 0 0) rfl
  clear hb4 q3 S3 K3 P3 X3 Q3 Y3 R3 Z3
  go_wp2_with fail
  refine (flatTexts_nil w4).mono ?_
  rintro ev w5 ⟨rfl, hb5⟩
  have S5 := Lib.hid (S4.out.trans (hb5.mono (Nat.le_trans hb S4.out.size)))
  have K5 := Lib.hid (K4.out.below hb5 K4.out.lt)
  have P5 := Lib.hid (P4.out.below hb5)
  have X5 := Lib.hid (X4.out.below hb5)
  have Q5 := Lib.hid (Q4.out.below hb5)
  have Y5 := Lib.hid (Y4.out.below hb5)
  have R5 := Lib.hid (R4.out.below hb5)
  have Z5 := Lib.hid (Z4.out.below hb5)
  have q5 := K5.out.cell (i := 5) (v := .slice (some ⟨Lb, 0, none⟩) K cb) rfl
  clear hb5 q4 S4 K4 P4 X4 Q4 Y4 R4 Z4
  go_wp2_with fail
  refine (flatBytes_any w5 base Lb K cb Vb nb Xb P5.out X5.out hAb hK hnb (Nat.le_trans hb S5.out.size)).mono ?_
  rintro ev w6 ⟨rfl, hb6⟩
  have S6 := Lib.hid (S5.out.trans hb6.1)
  have K6 := Lib.hid (hb6.2.2 _ _ _ K5.out (by decide))
  have Q6 := Lib.hid (LAtG.blk Q5.out hb6.2.2 (by decide))
  have Y6 := Lib.hid (FamG.blk Y5.out hb6.2.2 (by decide))
  have R6 := Lib.hid (LAtG.blk R5.out hb6.2.2 (by decide))
  have Z6 := Lib.hid (FamG.blk Z5.out hb6.2.2 (by decide))
  have q6 := K6.out.cell (i := 6) (v := .slice none 0 0) rfl
  clear hb6 q5 S5 K5 P5 X5 Q5 Y5 R5 Z5
  go_wp2_with fail
  refine (flatTreeKeys_nil w6).mono ?_
  rintro ev w7 ⟨rfl, hb7⟩
  have S7 := Lib.hid (S6.out.trans (hb7.mono (Nat.le_trans hb S6.out.size)))
  have K7 := Lib.hid (K6.out.below hb7 K6.out.lt)
  have Q7 := Lib.hid (Q6.out.below hb7)
  have Y7 := Lib.hid (Y6.out.below hb7)
  have R7 := Lib.hid (R6.out.below hb7)
  have Z7 := Lib.hid (Z6.out.below hb7)
  have q7 := K7.out.cell (i := 7) (v := .slice none 0 0) rfl
  clear hb7 q6 S6 K6 Q6 Y6 R6 Z6
  go_wp2_with fail
  refine (flatPieces_nil w7).mono ?_
  rintro ev w8 ⟨rfl, hb8⟩
  have S8 := Lib.hid (S7.out.trans (hb8.mono (Nat.le_trans hb S7.out.size)))
  have K8 := Lib.hid (K7.out.below hb8 K7.out.lt)
  have Q8 := Lib.hid (Q7.out.below hb8)
  have Y8 := Lib.hid (Y7.out.below hb8)
  have R8 := Lib.hid (R7.out.below hb8)
  have Z8 := Lib.hid (Z7.out.below hb8)
  have q8 := K8.out.cell (i := 8) (v := .slice (some ⟨Lf, 0, none⟩) K cf) rfl
  clear hb8 q7 S7 K7 Q7 Y7 R7 Z7
  go_wp2_with fail
  refine (flatFates_any w8 base Lf K cf Vf nf Xf Q8.out Y8.out hAf hK hnf (Nat.le_trans hb S8.out.size)).mono ?_
  rintro ev w9 ⟨rfl, hb9⟩
  have S9 := Lib.hid (S8.out.trans hb9.1)
  have K9 := Lib.hid (hb9.2.2 _ _ _ K8.out (by decide))
  have R9 := Lib.hid (LAtG.blk R8.out hb9.2.2 (by decide))
  have Z9 := Lib.hid (FamG.blk Z8.out hb9.2.2 (by decide))
  have q9 := K9.out.cell (i := 9) (v := .slice none 0 0) rfl
  clear hb9 q8 S8 K8 Q8 Y8 R8 Z8
  go_wp2_with fail
  refine (flatFrames_nil w9).mono ?_
  rintro ev w10 ⟨rfl, hb10⟩
  have S10 := Lib.hid (S9.out.trans (hb10.mono (Nat.le_trans hb S9.out.size)))
  have K10 := Lib.hid (K9.out.below hb10 K9.out.lt)
  have R10 := Lib.hid (R9.out.below hb10)
  have Z10 := Lib.hid (Z9.out.below hb10)
  have q10 := K10.out.cell (i := 10) (v := .slice none 0 0) rfl
  clear hb10 q9 S9 K9 R9 Z9
  go_wp2_with fail
  refine (flatPlaces_nil w10).mono ?_
  rintro ev w11 ⟨rfl, hb11⟩
  have S11 := Lib.hid (S10.out.trans (hb11.mono (Nat.le_trans hb S10.out.size)))
  have K11 := Lib.hid (K10.out.below hb11 K10.out.lt)
  have R11 := Lib.hid (R10.out.below hb11)
  have Z11 := Lib.hid (Z10.out.below hb11)
  have q11 := K11.out.cell (i := 11) (v := .slice none 0 0) rfl
  clear hb11 q10 S10 K10 R10 Z10
  go_wp2_with fail
  refine (flatEntries_nil w11).mono ?_
  rintro ev w12 ⟨rfl, hb12⟩
  have S12 := Lib.hid (S11.out.trans (hb12.mono (Nat.le_trans hb S11.out.size)))
  have K12 := Lib.hid (K11.out.below hb12 K11.out.lt)
  have R12 := Lib.hid (R11.out.below hb12)
  have Z12 := Lib.hid (Z11.out.below hb12)
  have q12 := K12.out.cell (i := 12) (v := .slice none 0 0) rfl
  clear hb12 q11 S11 K11 R11 Z11
  go_wp2_with fail
  refine (flatNodes_nil w12).mono ?_
  rintro ev w13 ⟨rfl, hb13⟩
  have S13 := Lib.hid (S12.out.trans (hb13.mono (Nat.le_trans hb S12.out.size)))
  have K13 := Lib.hid (K12.out.below hb13 K12.out.lt)
  have R13 := Lib.hid (R12.out.below hb13)
  have Z13 := Lib.hid (Z12.out.below hb13)
  have q13 := K13.out.cell (i := 13) (v := .slice none 0 0) rfl
  clear hb13 q12 S12 K12 R12 Z12
  go_wp2_with fail
  refine (flatItems_nil w13).mono ?_
  rintro ev w14 ⟨rfl, hb14⟩
  have S14 := Lib.hid (S13.out.trans (hb14.mono (Nat.le_trans hb S13.out.size)))
  have K14 := Lib.hid (K13.out.below hb14 K13.out.lt)
  have R14 := Lib.hid (R13.out.below hb14)
  have Z14 := Lib.hid (Z13.out.below hb14)
  have q14 := K14.out.cell (i := 14) (v := .slice none 0 0) rfl
  clear hb14 q13 S13 K13 R13 Z13
  go_wp2_with fail
  refine (flatCounts_nil w14).mono ?_
  rintro ev w15 ⟨rfl, hb15⟩
  have S15 := Lib.hid (S14.out.trans (hb15.mono (Nat.le_trans hb S14.out.size)))
  have K15 := Lib.hid (K14.out.below hb15 K14.out.lt)
  have R15 := Lib.hid (R14.out.below hb15)
  have Z15 := Lib.hid (Z14.out.below hb15)
  have q15 := K15.out.cell (i := 15) (v := .slice none 0 0) rfl
  clear hb15 q14 S14 K14 R14 Z14
  go_wp2_with fail
  refine (flatFreshes_nil w15).mono ?_
  rintro ev w16 ⟨rfl, hb16⟩
  have S16 := Lib.hid (S15.out.trans (hb16.mono (Nat.le_trans hb S15.out.size)))
  have K16 := Lib.hid (K15.out.below hb16 K15.out.lt)
  have R16 := Lib.hid (R15.out.below hb16)
  have Z16 := Lib.hid (Z15.out.below hb16)
  have q16 := K16.out.cell (i := 16) (v := .slice none 0 0) rfl
  clear hb16 q15 S15 K15 R15 Z15
  go_wp2_with fail
  refine (flatPuts_nil w16).mono ?_
  rintro ev w17 ⟨rfl, hb17⟩
  have S17 := Lib.hid (S16.out.trans (hb17.mono (Nat.le_trans hb S16.out.size)))
  have K17 := Lib.hid (K16.out.below hb17 K16.out.lt)
  have R17 := Lib.hid (R16.out.below hb17)
  have Z17 := Lib.hid (Z16.out.below hb17)
  have q17 := K17.out.cell (i := 17) (v := .slice none 0 0) rfl
  clear hb17 q16 S16 K16 R16 Z16
  go_wp2_with fail
  refine (flatOps_nil w17).mono ?_
  rintro ev w18 ⟨rfl, hb18⟩
  have S18 := Lib.hid (S17.out.trans (hb18.mono (Nat.le_trans hb S17.out.size)))
  have K18 := Lib.hid (K17.out.below hb18 K17.out.lt)
  have R18 := Lib.hid (R17.out.below hb18)
  have Z18 := Lib.hid (Z17.out.below hb18)
  have q18 := K18.out.cell (i := 18) (v := .slice (some ⟨Ls, 0, none⟩) K cs) rfl
  clear hb18 q17 S17 K17 R17 Z17
  go_wp2_with fail
  refine (flatSteps_any w18 base Ls K cs Vs (fun _ => 1) Xs R18.out Z18.out hAs hK (fun _ _ => by omega) (Nat.le_trans hb S18.out.size)).mono ?_
  rintro ev w19 ⟨rfl, hb19⟩
  have S19 := Lib.hid (S18.out.trans hb19.1)
  have K19 := Lib.hid (hb19.2.2 _ _ _ K18.out (by decide))
  have q19 := K19.out.cell (i := 19) (v := .slice none 0 0) rfl
  clear hb19 q18 S18 K18 R18 Z18
  go_wp2_with fail
  refine (flatStats_nil w19).mono ?_
  rintro ev w20 ⟨rfl, hb20⟩
  have S20 := Lib.hid (S19.out.trans (hb20.mono (Nat.le_trans hb S19.out.size)))
  have K20 := Lib.hid (K19.out.below hb20 K19.out.lt)
  have q20 := K20.out.cell (i := 20) (v := .slice none 0 0) rfl
  clear hb20 q19 S19 K19
  go_wp2_with fail
  refine (flatTales_nil w20).mono ?_
  rintro ev w21 ⟨rfl, hb21⟩
  have S21 := Lib.hid (S20.out.trans (hb21.mono (Nat.le_trans hb S20.out.size)))
  go_wp2
  go_ret
  exact ⟨rfl, S21.out⟩
theorem LAt.of_own3 {w : World} {b g K c : Nat} {V : Nat → Value} (h : w.ownsRow b 24 1 (.slice (some ⟨g, 0, none⟩) K c) K ((List.range K).map V)) : LAt w g K V := by
  rcases h.2 with ⟨h0, _⟩ | ⟨g', cap, cur, hv, hb, hg, hnc, hcm, hcs, ht⟩
  · cases h0
  · injection hv with a1 a2 a3
    injection a1 with a1
    injection a1 with a1
    subst a1
    refine ⟨cur, hg, fun k hk => ?_⟩
    have h3 : (cur.toList.take (K * 1))[k]? = ((List.range K).map V)[k]? := by rw [ht]
    rw [List.getElem?_take_of_lt (by omega)] at h3
    simpa [hk] using h3
theorem LAtG.of_own {RE : TypeId} {w : World} {b g K c : Nat} {V : Nat → Value} (h : w.ownsRow b RE 1 (.slice (some ⟨g, 0, none⟩) K c) K ((List.range K).map V)) : LAtG RE w g K V := by
  rcases h.2 with ⟨h0, _⟩ | ⟨g', cap, cur, hv, hb, hg, hnc, hcm, hcs, ht⟩
  · cases h0
  · injection hv with a1 a2 a3
    injection a1 with a1
    injection a1 with a1
    subst a1
    refine ⟨cur, hg, fun k hk => ?_⟩
    have h3 : (cur.toList.take (K * 1))[k]? = ((List.range K).map V)[k]? := by rw [ht]
    rw [List.getElem?_take_of_lt (by omega)] at h3
    simpa [hk] using h3
def ApI3 (B K : Nat) (Vb Vf Vs : Nat → Value) (w : World) (gk : Nat) (kv : Value) (wr : World) : Prop :=
  ∃ k : Nat, k + gk = K ∧ kv = .int .i64 (k : Int) ∧ AllB wr B k k ((List.range k).map Vb) ((List.range k).map Vf) ((List.range k).map Vs) ∧ Below w.heap.size w wr
set_option maxHeartbeats 1600000 in
set_option maxRecDepth 100000 in
theorem apartSteps_any (w : World) (base L K c : Nat) (Vb Vf Vs : Nat → Value) (nb nf : Nat → Nat) (Xb : Nat → List Int) (Xf Xs : Nat → List Value)
    (hL : LAtG 33 w L K Vs) (hFb : Fam w base K Vb nb Xb) (hFf : FamG 50 1 w base K Vf nf Xf) (hFs : FamG 27 6 w base K Vs (fun _ => 1) Xs) (hX : ∀ k, k < K → ∃ a0 a1 a2 a3, Xs k = [a0, a1, a2, a3, Vb k, Vf k])
    (hAb : Apt K Vb Vb) (hAf : Apt K Vf Vf) (hAs : Apt K Vs Vs) (hK0 : 0 < K) (hK : K ≤ 1000) (hnb : ∀ k, k < K → nb k ≤ 1000000000) (hnf : ∀ k, k < K → nf k ≤ 1000000000) (hb : base ≤ w.heap.size) :
    Calls Tryz.prog 9 #[.slice (some ⟨L, 0, none⟩) K c] w fun e w' => e = .returned (.bool true) ∧ Below base w w' := by
  have HL := Lib.hid hL
  have HFb := Lib.hid hFb
  have HFf := Lib.hid hFf
  have HFs := Lib.hid hFs
  have HX := Lib.hid hX
  have HAb := Lib.hid hAb
  have HAf := Lib.hid hAf
  have HAs := Lib.hid hAs
  have HNb := Lib.hid hnb
  have HNf := Lib.hid hnf
  clear hL hFb hFf hFs hX hAb hAf hAs hnb hnf
  go_enter Tryz.func9, Tryz.ntmps9
  go_wp2
  obtain ⟨w2, hw2⟩ : ∃ w2, w2 = w.alloc (.cells #[.slice none 0 0, .slice none 0 0, .slice none 0 0, .slice none 0 0, .slice none 0 0, .slice none 0 0, .slice none 0 0, .slice none 0 0, .slice none 0 0, .slice none 0 0, .slice none 0 0, .slice none 0 0, .slice none 0 0, .slice none 0 0, .slice none 0 0, .slice none 0 0, .slice none 0 0, .slice none 0 0, .slice none 0 0, .slice none 0 0, .slice none 0 0] 90) := ⟨_, rfl⟩
  rw [← hw2]
  have L2 := Lib.hid (show Below w.heap.size w w2 by rw [hw2]; exact (Below.refl _ _).alloc (Nat.le_refl _) _)
  have K2 := Lib.hid (show Bag3 w2 w.heap.size (.slice none 0 0) (.slice none 0 0) (.slice none 0 0) by rw [hw2]; exact Blk.made _ _ _)
  clear hw2
  obtain ⟨B, hBE⟩ : ∃ B, B = w.heap.size := ⟨_, rfl⟩
  rw [← hBE] at K2 ⊢
  have HBE := Lib.hid hBE
  clear hBE
  go_loopg [4] K (ApI3 B K Vb Vf Vs w)
  case atStart => exact ⟨0, by omega, rfl, ⟨_, _, _, K2.out, World.ownsRow_nil _ _ _ _, World.ownsRow_nil _ _ _ _, World.ownsRow_nil _ _ _ _⟩, L2.out⟩
  case round =>
    clear K2 L2
    obtain ⟨k, hk, rfl, hall, hbw⟩ := hrel
    have AB := Lib.hid hall
    have BW := Lib.hid hbw
    clear hall hbw
    by_cases hkK : k < K
    · have hkI : (k : Int) < K := by omega
      have cL := (HL.out.below BW.out).cell hkK
      obtain ⟨a0, a1, a2, a3, hXk⟩ := HX.out k hkK
      have hs : w.ownsRow base 27 6 (Vs k) 1 (Xs k) := HFs.out k hkK
      rw [hXk] at hs
      obtain ⟨g, cg, hVs, hbg, hlt2⟩ := hs.form (by omega)
      rw [hVs] at cL hs
      obtain ⟨A, cA, hVb, _⟩ := own_slice (HFb.out k hkK)
      obtain ⟨A', cA', hVf, _⟩ := own_slice (HFf.out k hkK)
      rw [hVb, hVf] at hs
      have hcg : 1 ≤ cg := by
        rcases hs.2 with ⟨h0, _⟩ | ⟨g', cap, cur, hv, _, _, hnc, _⟩
        · cases h0
        · injection hv with _ _ h3
          omega
      have HS := Lib.hid hs
      have H1 := Lib.hid hVb
      have H2 := Lib.hid hVf
      have H3 := Lib.hid hVs
      have hgB : g < B := by have := HBE.out; omega
      clear hXk hVb hVf hVs hs
      go_wp2_with fail
      refine (putSteps3 B k _ _ _ a0 a1 a2 a3 A A' (nb k) cA (nf k) cA' g cg wr AB.out hgB (fun j v hj => ?_) (by omega) hcg).mono ?_
      · have hj6 : j < 1 * 6 := by
          rcases Nat.lt_or_ge j 6 with h | h
          · omega
          · rw [List.getElem?_eq_none (by simpa using h)] at hj; cases hj
        exact cell_low ((HS.out.cellAt j hj6).trans hj) BW.out
      rintro ev w4 ⟨rfl, hall, hbl4⟩
      have AB4 := Lib.hid hall
      have BW4 := Lib.hid (show Below w.heap.size w w4 by rw [← HBE.out]; exact (HBE.out ▸ BW.out).trans hbl4)
      clear hall hbl4
      go_wp2
      go_roundg (gk - 1)
      case measure => omega
      case rel =>
        refine ⟨k + 1, by omega, by go_num, ?_, BW4.out⟩
        rw [List.range_succ, List.map_append, List.map_append, List.map_append, List.map_singleton, List.map_singleton, List.map_singleton, H1.out, H2.out, H3.out]
        exact AB4.out
    · obtain rfl : K = k := by omega
      obtain ⟨vb, vf, vs, hB3, ob, of, os⟩ := AB.out
      obtain ⟨gb, cb, hvb, _, _⟩ := ob.form hK0
      obtain ⟨gf, cf, hvf, _, _⟩ := of.form hK0
      obtain ⟨gs, cs, hvs, _, _⟩ := os.form hK0
      subst hvb hvf hvs
      have H3 := Lib.hid hB3
      have Ob := Lib.hid ob
      have Of := Lib.hid of
      have Os := Lib.hid os
      clear AB hB3 ob of os
      go_wp2_with fail
      refine (apart3 wr B base gb cb gf cf gs cs K Vb Vf Vs nb nf Xb Xf Xs H3.out (LAt.of_own3 Ob.out) (LAtG.of_own Of.out) (LAtG.of_own Os.out) (HFb.out.below BW.out) (HFf.out.below BW.out) (HFs.out.below BW.out) HAb.out HAf.out HAs.out hK HNb.out HNf.out (Nat.le_trans hb BW.out.size)).mono ?_
      rintro ev w5 ⟨rfl, hb5⟩
      have B5 := Lib.hid ((BW.out.mono hb).trans hb5)
      clear hb5
      go_wp2
      go_ret
      exact ⟨rfl, B5.out⟩
end Go.Proofs.YtfehgpjnlkgekaaGreatDoor
