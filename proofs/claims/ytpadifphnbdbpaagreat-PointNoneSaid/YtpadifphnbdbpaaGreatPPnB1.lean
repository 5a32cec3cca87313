/-
  what this claim needs of: PnB1, PnB2, PnB3, PnB4, PnB5 (written by cut.py).
-/
import Derived.Test.YtpadifphnbdbpaaGreatPPnC
import Derived.RangeFuncNested
import Derived.RangeFuncBound
import Derived.RangeFuncCalls
import Derived.RangeFuncLeaves
import Derived.Shelf.Abstract
import Derived.Shelf.RegionOpen
import Derived.WalkKit
import Derived.OwnWalkIn
import Derived.TacticsInMore
import Derived.LoopNIn
import Derived.LoopIn
namespace Go.Proofs.YtpadifphnbdbpaaGreat
open Go.RowKit Go.Maps Go.Shelf
set_option linter.unusedVariables false
set_option linter.unusedSimpArgs false
attribute [local go_sem] Oper.semAt_some

/-- The two boxes of the iterator, when k sectors have been told. -/
def SxB (Ba Bb at0 m b off : Nat) (k c : Nat) (W : World) : Prop := Boxed W Ba 3 (.int .i64 ((at0 + k : Nat) : Int)) ∧ ∃ A, Boxed W Bb 78 (.slice A (512 * (m - k)) c) ∧ (k < m → A = some ⟨b, off + 512 * k, none⟩ ∧ 512 * (m - k) ≤ c)
def sxLen (Bb : Nat) (W : World) : Nat := match W.cell? ⟨Bb, 0, none⟩ with
  | some (.slice _ n _) => n
  | _ => 0
/-- Block r is one of the two boxes. -/
def SxR (Ba Bb : Nat) (W : World) (r : Nat) : Prop := (r = Ba ∧ ∃ v, Boxed W Ba 3 v) ∨ (r = Bb ∧ ∃ v, Boxed W Bb 78 v)
theorem sx_end {Ba Bb at0 m b off k ln' c' X : Nat} {av : Int} {J : Nat → World → Prop} {W3 : World} {A' : Option Addr} {v0 : Value} (hne : Ba ≠ Bb)
    (hJ : ∀ k W W' row, J k W → W.grownBy W' row → (∀ r, row = some r → SxR Ba Bb W r) → J k W')
    (h3 : J (k + 1) W3) (hA : Boxed W3 Ba 3 (.int .i64 av)) (hB : Boxed W3 Bb 78 v0) (hk : k < m)
    (e1 : ((at0 + (k + 1) : Nat) : Int) = av + 1) (e2 : 512 * (m - (k + 1)) = ln') (e3 : k + 1 < m → A' = some ⟨b, off + 512 * (k + 1), none⟩ ∧ ln' ≤ c') (hlt : ln' < X) :
    (∃ k c, k ≤ m ∧ J k ((W3.setCell ⟨Bb, 0, none⟩ (.slice A' ln' c')).setCell ⟨Ba, 0, none⟩ (.int .i64 (av + 1))) ∧ SxB Ba Bb at0 m b off k c ((W3.setCell ⟨Bb, 0, none⟩ (.slice A' ln' c')).setCell ⟨Ba, 0, none⟩ (.int .i64 (av + 1)))) ∧
      sxLen Bb ((W3.setCell ⟨Bb, 0, none⟩ (.slice A' ln' c')).setCell ⟨Ba, 0, none⟩ (.int .i64 (av + 1))) < X := by
  have hB5 : Boxed ((W3.setCell ⟨Bb, 0, none⟩ (.slice A' ln' c')).setCell ⟨Ba, 0, none⟩ (.int .i64 (av + 1))) Bb 78 (.slice A' ln' c') := (hB.set _).other (fun e => hne e.symm) _
  refine ⟨⟨k + 1, c', hk, hJ _ _ _ (some Ba) (hJ _ _ _ (some Bb) h3 (grownBy_setCell' _ _ _) (fun r e => by injection e with e; subst e; exact .inr ⟨rfl, _, hB⟩)) (grownBy_setCell' _ _ _) (fun r e => by injection e with e; subst e; exact .inl ⟨rfl, _, hA.other hne _⟩), by rw [e1]; exact (hA.other hne _).set _, A', by rw [e2]; exact hB5, fun h => ⟨(e3 h).1, by rw [e2]; exact (e3 h).2⟩⟩, ?_⟩
  unfold sxLen
  rw [hB5.cell]
  exact hlt
set_option maxRecDepth 100000 in
set_option maxHeartbeats 1000000 in
theorem sx_in (F : Fence) (n : Nat) (hF : F.fn 115) (hro : F.round = none) (hn : 1 ≤ n) (l Ba Bb at0 m b off : Nat) (hm : m ≤ 100000) (ha : at0 ≤ 1000000) (hne : Ba ≠ Bb) (J : Nat → World → Prop)
    (hJ : ∀ k W W' row, J k W → W.grownBy W' row → (∀ r, row = some r → SxR Ba Bb W r) → J k W')
    (hY : ∀ k c W, k < m → J k W → SxB Ba Bb at0 m b off k c W → YieldAt F (n - 1) Tryz.prog l #[.int .i64 ((at0 + k : Nat) : Int), .slice (some ⟨b, off + 512 * k, none⟩) 512 c] W fun e W' => e = .returned (.bool true) ∧ J (k + 1) W' ∧ SxB Ba Bb at0 m b off k c W')
    (W : World) (c0 : Nat) (h0 : J 0 W) (hB : SxB Ba Bb at0 m b off 0 c0 W) :
    CallsIn F n Tryz.prog 115 #[.func (.yield l) #[] #[], .pointer (some ⟨Bb, 0, none⟩), .pointer (some ⟨Ba, 0, none⟩)] W fun e W' => (∃ v, e = .returned v) ∧ J m W' := by
  refine callsIn_of_wp Tryz.func115 rfl hF ?_ hro
  simp only [Tryz.ntmps115, List.size_toArray, List.length_cons, List.length_nil, Nat.reduceAdd, Nat.reduceSub, Array.replicate_succ, Array.replicate_zero, List.push_toArray, List.append_toArray, List.nil_append, List.cons_append]
  gi_wp2
  gi_loopw [4] (fun p wr => ∃ k c, k ≤ m ∧ J k wr ∧ SxB Ba Bb at0 m b off k c wr) (fun p wr => sxLen Bb wr)
  case atStart => exact ⟨0, c0, Nat.zero_le _, h0, hB⟩
  case round =>
    obtain ⟨k, c, hk, hJk, hBa, A, hBb, hA⟩ := hrel
    have ca := hBa.cell
    have fa := hBa.frozen
    have cb := hBb.cell
    have fb := hBb.frozen
    have hlen : sxLen Bb wr = 512 * (m - k) := by unfold sxLen; rw [cb]
    by_cases hkm : k < m
    · obtain ⟨rfl, hc⟩ := hA hkm
      obtain ⟨fn, tmps, assign, body, hy, hR⟩ := hY k c wr.drew hkm (hJ _ _ _ none hJk ⟨rfl, rfl, rfl, Nat.le_refl _, fun _ _ _ => rfl⟩ (by simp)) ⟨hBa, _, hBb, hA⟩
      obtain ⟨av, hav⟩ : ∃ av : Int, av = ((at0 + k : Nat) : Int) := ⟨_, rfl⟩
      obtain ⟨ln, hln⟩ : ∃ ln : Nat, ln = 512 * (m - k) := ⟨_, rfl⟩
      obtain ⟨o1, ho1⟩ : ∃ o1 : Nat, o1 = off + 512 * k := ⟨_, rfl⟩
      have hl1 : 512 ≤ ln ∧ ln ≤ c ∧ ln ≤ 100000000 := by omega
      have hl2 : (0 : Int) < (ln : Int) := by omega
      have hl3 : (512 : Int) ≤ (ln : Int) := by omega
      have hl4 : (512 : Int) ≤ (c : Int) := by omega
      have hl5 : (ln : Int) ≤ (c : Int) := by omega
      rw [← hav] at hy ca
      rw [← hln] at cb hlen
      rw [← ho1] at hy cb
      have HV := Lib.hid (And.intro hav (And.intro hln ho1))
      have HB := Lib.hid hBb
      have HA := Lib.hid hBa
      clear hav hln ho1 hBb hA hBa hY hB h0
      have hd : 1 ≤ n := hn
      have hmx : Tryz.prog.follows .mixedOrders = true := by kernel_rfl
      have e1 : ((at0 + (k + 1) : Nat) : Int) = av + 1 := by rw [HV.out.1]; omega
      have e2 : 512 * (m - (k + 1)) = ln - 512 := by have := HV.out.2.1; omega
      have e3 : off + 512 * (k + 1) = o1 + 512 := by have := HV.out.2.2; omega
      have HE := Lib.hid (And.intro e1 (And.intro e2 e3))
      have hav2 : -1000 ≤ av ∧ av ≤ 2000000 := by have := HV.out.1; omega
      clear e1 e2 e3
      by_cases hcc : c = 512
      · subst hcc
        obtain rfl : ln = 512 := by omega
        gi_wp2
        gi_region_with_o (refine hR.mono ?_; rintro e W3 ⟨rfl, hJ3, hB3⟩)
        all_goals
          obtain ⟨hBa3, A3, hBb3, hA3⟩ := hB3
          obtain ⟨rfl, _⟩ := hA3 hkm
          rw [← HV.out.1] at hBa3
          rw [← HV.out.2.1, ← HV.out.2.2] at hBb3
          have ca3 := hBa3.cell
          have fa3 := hBa3.frozen
          have cb3 := hBb3.cell
          have fb3 := hBb3.frozen
          have HB3 := Lib.hid hBb3
          have HA3 := Lib.hid hBa3
          have HJ3 := Lib.hid hJ3
          clear hBa3 hBb3 hA3 hJ3 hR hy
          gi_wp2
          exact sx_end hne hJ HJ3.out HA3.out HB3.out hkm HE.out.1 (by have := HE.out.2.1; omega) (fun h => by have := HV.out.2.1; omega) (by rw [hlen]; omega)
      · have hcI : ¬ (c : Int) = 512 := by omega
        gi_wp2
        gi_region_with_o (refine hR.mono ?_; rintro e W3 ⟨rfl, hJ3, hB3⟩)
        all_goals
          obtain ⟨hBa3, A3, hBb3, hA3⟩ := hB3
          obtain ⟨rfl, _⟩ := hA3 hkm
          rw [← HV.out.1] at hBa3
          rw [← HV.out.2.1, ← HV.out.2.2] at hBb3
          have ca3 := hBa3.cell
          have fa3 := hBa3.frozen
          have cb3 := hBb3.cell
          have fb3 := hBb3.frozen
          have HB3 := Lib.hid hBb3
          have HA3 := Lib.hid hBa3
          have HJ3 := Lib.hid hJ3
          clear hBa3 hBb3 hA3 hJ3 hR hy
          gi_wp2
          exact sx_end hne hJ HJ3.out HA3.out HB3.out hkm HE.out.1 HE.out.2.1 (fun h => ⟨by rw [HE.out.2.2], by omega⟩) (by rw [hlen]; omega)
    · obtain rfl : k = m := by omega
      have e0 : 512 * (k - k) = 0 := by omega
      rw [e0] at cb
      clear hY hB h0
      gi_wp2
      go_end0
      exact ⟨⟨_, rfl⟩, hJk⟩
end Go.Proofs.YtpadifphnbdbpaaGreat
namespace Go.Proofs.YtpadifphnbdbpaaGreat
open Go.RowKit Go.Maps Go.Shelf
set_option linter.unusedVariables false
set_option linter.unusedSimpArgs false

theorem SxB.kept {Ba Bb at0 m b off k c : Nat} {W W' : World} {row : Option Nat} (h : SxB Ba Bb at0 m b off k c W) (hg : W.grownBy W' row) (h1 : some Ba ≠ row) (h2 : some Bb ≠ row) : SxB Ba Bb at0 m b off k c W' := by
  obtain ⟨ha, A, hb, hA⟩ := h
  exact ⟨ha.kept hg h1, A, hb.kept hg h2, hA⟩
/-- How a round is left: it goes on. -/
def sxPost (B : Nat) (Ba Bb at0 m b off k c : Nat) (I : Nat → World → Prop) (W : World) : Exit → Act → World → Prop
  | .normal, _, W' => KeepsFrom B W W' ∧ I (k + 1) W' ∧ SxB Ba Bb at0 m b off k c W'
  | _, _, _ => False
theorem wpIn_range_sx {F : Fence} {n : Nat} {g : Operand} {ps : Array Tmp} {assign body : Code} {Q : Exit → Act → World → Prop} {a : Act} {w : World}
    (hro : F.round = none) (h1 : 2 ≤ n) (hFg : F.fn 115) {Ba Bb at0 m b off c0 : Nat} (hm : m ≤ 100000) (ha : at0 ≤ 1000000) (hne : Ba ≠ Bb) (hBa : Ba < w.heap.size) (hBb : Bb < w.heap.size)
    (hg : a.eval g = .func (.func 115) #[] #[.pointer (some ⟨Bb, 0, none⟩), .pointer (some ⟨Ba, 0, none⟩)]) (hps : ps.size = 2)
    (I : Nat → World → Prop) (hI : ∀ k W W' row, I k W → W.grownBy W' row → (∀ r, row = some r → SxR Ba Bb W r ∨ (w.heap.size ≤ r ∧ ∃ o : Obj, W.heap[r]? = some o ∧ o.isCells = false)) → I k W')
    (h0 : I 0 w) (hB : SxB Ba Bb at0 m b off 0 c0 w) (a₁ : Nat → Nat → Act)
    (hassign : ∀ (l k c : Nat) (W : World) (K : Act → World → Prop), K (a₁ k c) W →
      assign.wpIn (F.inRound l) (n - 1 - 1) Tryz.prog (Exit.then K (fun _ _ _ => False)) { tmps := (ps.zip #[.int .i64 ((at0 + k : Nat) : Int), .slice (some ⟨b, off + 512 * k, none⟩) 512 c]).foldl (fun t (p, v) => t.setIfInBounds p v) a.tmps, defers := [] } W)
    (hbody : ∀ (l k c : Nat) (W : World), k < m → I k W → SxB Ba Bb at0 m b off k c W → body.wpIn (F.inRound l) (n - 1 - 1) Tryz.prog (sxPost w.heap.size Ba Bb at0 m b off k c I W) (a₁ k c) W)
    (hdone : ∀ (D : Nat) (W : World), w.heap.size ≤ D → I m W → W.heap[D]? = some (.deferred (some [])) → Q .normal { a with defers := { target := .collected D, args := #[] } :: a.defers } W) :
    (Code.rangeFunc g ps assign body).wpIn F n Tryz.prog Q a w := by
  refine wpIn_rangeFunc ?_
  intro fn hfn
  rw [hro]
  obtain ⟨rec, hrec⟩ : ∃ rec : LoopState → Option Code → Loop, rec = fun st pe => { state := st, pending := pe, fn, tmps := a.tmps, params := ps, assign, body, defers := w.heap.size } := ⟨_, rfl⟩
  obtain ⟨W1, hW1⟩ : ∃ W1, (w.alloc (.deferred (some []))).alloc (.loop (rec .ready none)) = W1 := ⟨_, rfl⟩
  have hL1 : W1.heap[w.heap.size + 1]? = some (.loop (rec .ready none)) := by
    rw [← hW1]; have := World.alloc_heap_new (w.alloc (.deferred (some []))) (.loop (rec .ready none)); rwa [World.size_alloc] at this
  have hK1 : W1.heap[w.heap.size]? = some (.deferred (some [])) := by
    rw [← hW1]; exact (Below.heap_alloc _ _ _ (by simp)).trans (World.alloc_heap_new w _)
  have hI1 : I 0 W1 := by rw [← hW1]; exact hI _ _ _ none (hI _ _ _ none h0 (World.grownBy_alloc w _ none) (by simp)) (World.grownBy_alloc _ _ none) (by simp)
  have hB1 : SxB Ba Bb at0 m b off 0 c0 W1 := by rw [← hW1]; exact (hB.kept (World.grownBy_alloc w _ none) (by simp) (by simp)).kept (World.grownBy_alloc _ _ none) (by simp) (by simp)
  refine ⟨w.heap.size + 1, [{ target := .collected w.heap.size, args := #[] }], W1, { target := .fn (.func 115) #[.pointer (some ⟨Bb, 0, none⟩), .pointer (some ⟨Ba, 0, none⟩)], args := #[.func (.yield (w.heap.size + 1)) #[] #[]] }, W1, 115,
    #[.func (.yield (w.heap.size + 1)) #[] #[]] ++ #[.pointer (some ⟨Bb, 0, none⟩), .pointer (some ⟨Ba, 0, none⟩)], W1, ?_, ?_, ?_, ?_, fun _ => by omega, ?_⟩
  · rw [← hW1, hrec]; exact run_enterLoop_outer _ _ _ _ _
  · simp only [resolve, hg]
    simp [go_sem]
  · intro f' hf'; simp [Target.leads] at hf'; subst hf'; exact hFg
  · have eg := enters_of Tryz.func115 (by kernel_rfl) rfl
    simp [invoke, go_sem, eg]
  · refine (sx_in F (n - 1) hFg hro (by omega) (w.heap.size + 1) Ba Bb at0 m b off hm ha hne
      (fun k W => I k W ∧ W.heap[w.heap.size + 1]? = some (.loop (rec .ready none)) ∧ W.heap[w.heap.size]? = some (.deferred (some [])))
      (fun k A B row hs hg' hr => ⟨hI k A B row hs.1 hg' (fun r e => .inl (hr r e)),
        (hg'.block _ (Array.getElem?_eq_some_iff.1 hs.2.1).1 (fun e => by rcases hr _ e.symm with ⟨h, _⟩ | ⟨h, _⟩ <;> omega)).trans hs.2.1,
        (hg'.block _ (Array.getElem?_eq_some_iff.1 hs.2.2).1 (fun e => by rcases hr _ e.symm with ⟨h, _⟩ | ⟨h, _⟩ <;> omega)).trans hs.2.2⟩)
      ?_ W1 c0 ⟨hI1, hL1, hK1⟩ hB1).mono ?_
    · -- one round
      rintro k c W hk ⟨hi, hl, hkk⟩ hSx
      have hlt : w.heap.size + 1 < W.heap.size := (Array.getElem?_eq_some_iff.1 hl).1
      have hy := run_yield (P := Tryz.prog) (args := #[.int .i64 ((at0 + k : Nat) : Int), .slice (some ⟨b, off + 512 * k, none⟩) 512 c]) hl (by rw [hrec]; simpa using hps.symm)
      rw [hrec] at hy
      refine ⟨fn, _, assign, body, hy, roundIn_of_wpIn hfn (hassign _ k c W _ ⟨_, run_beginRound hl (by rw [hrec]), ?_⟩)⟩
      have hl2 : (W.putObj (w.heap.size + 1) (.loop { rec .ready none with state := .busy })).heap[w.heap.size + 1]? = some (.loop { rec .ready none with state := .busy }) := World.putObj_heap_same hlt
      have hk2 : (W.putObj (w.heap.size + 1) (.loop { rec .ready none with state := .busy })).heap[w.heap.size]? = some (.deferred (some [])) := (World.putObj_heap_other (by omega)).trans hkk
      have hi2 : I k (W.putObj (w.heap.size + 1) (.loop { rec .ready none with state := .busy })) := hI _ _ _ _ hi (grownBy_putObj' _ _ _) (fun r e => by injection e with e; subst e; exact .inr ⟨by omega, _, hl, rfl⟩)
      have hS2 := hSx.kept (grownBy_putObj' W (w.heap.size + 1) (.loop { rec .ready none with state := .busy })) (by simp; omega) (by simp; omega)
      refine wpIn_mono (hbody _ k c _ hk hi2 hS2) ?_
      rintro e a3 W3 hp
      cases e with
      | normal =>
        obtain ⟨hk3, hi3, hS3⟩ := hp
        have hl3 := hk3.same _ _ (by omega) hl2 rfl
        have hd3 := hk3.same _ _ (Nat.le_refl _) hk2 rfl
        have hr := run_endRound (P := Tryz.prog) none hl3
        rw [hrec] at hr
        refine ⟨_, _, hr, rfl, ⟨hI _ _ _ _ hi3 (grownBy_putObj' _ _ _) (fun r e => by injection e with e; subst e; exact .inr ⟨by omega, _, hl3, rfl⟩), ?_, ?_⟩, hS3.kept (grownBy_putObj' _ _ _) (by simp; omega) (by simp; omega)⟩
        · rw [hrec]; exact World.putObj_heap_same (Array.getElem?_eq_some_iff.1 hl3).1
        · exact (World.putObj_heap_other (by omega)).trans hd3
      | ret => exact hp.elim
      | exit id => exact hp.elim
      | goto t => exact hp.elim
      | panic ch => exact hp.elim
      | outgrown => exact hp.elim
    · rintro e W2 ⟨⟨v, rfl⟩, hi, hl, hkk⟩
      refine ⟨none, _, by have := run_endLoop (P := Tryz.prog) hl (by rw [hrec]; simp); rw [hrec] at this; exact this, hdone _ _ (Nat.le_refl _) (hI _ _ _ _ hi (grownBy_putObj' _ _ _) (fun r e => by injection e with e; subst e; exact .inr ⟨by omega, _, hl, rfl⟩)) ((World.putObj_heap_other (by omega)).trans hkk)⟩
end Go.Proofs.YtpadifphnbdbpaaGreat
namespace Go.Proofs.YtpadifphnbdbpaaGreat
open Go.RowKit Go.Maps Go.Shelf
set_option linter.unusedVariables false
set_option linter.unusedSimpArgs false

/-- Sectors X laid from at0 on. -/
def putL (L : Int → Sec) (at0 : Nat) (X : List Sec) (i : Int) : Sec := if (at0 : Int) ≤ i ∧ i < (at0 : Int) + X.length then X.getD (i - at0).toNat zSec else L i
theorem putL_nil (L : Int → Sec) (at0 : Nat) : putL L at0 [] = L := by
  funext i
  unfold putL
  rw [if_neg (by simp)]
theorem putL_step (L : Int → Sec) (at0 : Nat) (X : List Sec) (k : Nat) (hk : k < X.length) : setL (putL L at0 (X.take k)) ((at0 + k : Nat) : Int) X[k] = putL L at0 (X.take (k + 1)) := by
  funext i
  unfold setL putL
  have h1 : (X.take k).length = k := by rw [List.length_take]; omega
  have h2 : (X.take (k + 1)).length = k + 1 := by rw [List.length_take]; omega
  rw [h1, h2]
  by_cases e : ((at0 + k : Nat) : Int) = i
  · subst e
    rw [if_pos rfl, if_pos (by omega)]
    have : (((at0 + k : Nat) : Int) - (at0 : Int)).toNat = k := by omega
    rw [this, List.getD_eq_getElem?_getD, List.getElem?_take, if_pos (by omega), List.getElem?_eq_getElem hk]
    rfl
  · rw [if_neg e]
    by_cases c : (at0 : Int) ≤ i ∧ i < (at0 : Int) + k
    · rw [if_pos (by omega), if_pos (by omega)]
      rw [List.getD_eq_getElem?_getD, List.getD_eq_getElem?_getD, List.getElem?_take, List.getElem?_take, if_pos (by omega), if_pos (by omega)]
    · rw [if_neg (by omega), if_neg (by omega)]
def secsL (X : List Sec) : List Value := X.flatMap secL
theorem secsL_part (X : List Sec) : ∀ (k : Nat) (hk : k < X.length), ((secsL X).drop (512 * k)).take 512 = secL X[k] := by
  induction X with
  | nil => intro k hk; simp at hk
  | cons x X ih =>
    intro k hk
    have e : secsL (x :: X) = secL x ++ secsL X := rfl
    cases k with
    | zero =>
      rw [e, Nat.mul_zero, List.drop_zero, List.take_append_of_le_length (by rw [secL_len]; exact Nat.le_refl _), List.take_of_length_le (by rw [secL_len]; exact Nat.le_refl _)]
      rfl
    | succ k =>
      have hk' : k < X.length := by simpa using hk
      rw [e, List.drop_append, secL_len, show 512 * (k + 1) - 512 = 512 * k by omega, List.drop_eq_nil_of_le (by rw [secL_len]; omega), List.nil_append]
      exact ih k hk'
section
variable {w w' : World} {c kb d sb ob n : Nat} {L : Int → Sec} {N : Nat}
theorem CcI.congr {L' : Int → Sec} (h : CcI w c kb d sb ob n L N) (e : L = L') : CcI w c kb d sb ob n L' N := e ▸ h
set_option maxRecDepth 100000 in
theorem bl_may (h : CcI w c kb d sb ob n L N) (at0 m : Nat) (ham : at0 + m ≤ n) : Calls Tryz.prog 74 #[.pointer (some ⟨c, 0, none⟩), .int .i64 (at0 : Int), .int .i64 (m : Int)] w fun e w' => e = .returned (.int .i64 0) ∧ w = w' := by
  have H := Lib.hid h
  have hr := h.rng
  have e1 : ¬ (at0 : Int) < 0 := by omega
  have e2 : ¬ (n : Int) < (at0 : Int) := by omega
  have e3 : ¬ (n : Int) - (at0 : Int) < (m : Int) := by omega
  clear h
  go_enter Tryz.func74, Tryz.ntmps74
  go_wp2_with (go_at_call 20; refine (ci_sectors H.out).mono ?_; rintro e w1 ⟨rfl, rfl⟩)
  go_ret
  exact ⟨rfl, rfl⟩
def SxPost (at0 : Int) (v : Value) (w : World) (e : Ending) (w' : World) : Prop := ∃ Ba Bb, e = .returned (.func (.func 115) #[] #[.pointer (some ⟨Bb, 0, none⟩), .pointer (some ⟨Ba, 0, none⟩)]) ∧ Boxed w' Ba 3 (.int .i64 at0) ∧ Boxed w' Bb 78 v ∧ Ba ≠ Bb ∧ w.heap.size ≤ Ba ∧ w.heap.size ≤ Bb ∧ Below w.heap.size w w'
theorem bl_sectors (at0 : Int) (A : Option Addr) (m c : Nat) (w : World) : Calls Tryz.prog 75 #[.int .i64 at0, .slice A m c] w (SxPost at0 (.slice A m c) w) := by
  go_enter Tryz.func75, Tryz.ntmps75
  go_wp2
  go_ret
  have hs : (w.alloc (Obj.cells #[.int .i64 at0] 3)).heap.size = w.heap.size + 1 := by simp
  refine ⟨w.heap.size, w.heap.size + 1, by first | rfl | (rw [← hs]; rfl), (Boxed.new w _ _).alloc _, ?_, by omega, by omega, by omega, ((Below.refl _ _).alloc (Nat.le_refl _) _).alloc (by simp) _⟩
  have := Boxed.new (w.alloc (Obj.cells #[.int .i64 at0] 3)) 78 (.slice A m c)
  rw [hs] at this
  exact this
end
end Go.Proofs.YtpadifphnbdbpaaGreat
namespace Go.Proofs.YtpadifphnbdbpaaGreat
open Go.RowKit Go.Maps Go.Shelf
set_option linter.unusedVariables false
set_option linter.unusedSimpArgs false
attribute [local go_sem] Oper.semAt_some
section
variable {w w' : World} {c kb d sb ob n : Nat} {L : Int → Sec} {N : Nat}
variable {L' : Int → Sec} {N' : Nat}
theorem CcI.step {r : Nat} {W W' : World} (h : CcI W c kb d sb ob n L N) (hT : Tch [r] W W') (hr : c < r ∧ kb < r ∧ d < r ∧ sb < r ∧ ob < r) (hu : ∀ b cs, Blk W b 5 cs → b ≠ r) : CcI W' c kb d sb ob n L N := by
  obtain ⟨K, S, O, h1, h2⟩ := h
  exact ⟨K, S, O, h1.tch hT (by simp; omega) (by simp; omega) (by simp; omega) (by simp; omega) (by simp; omega) (fun b cs hb => by have := hu b cs hb; simpa using this), h2⟩
/-- Between two rounds of a range over sectors. -/
structure BwI (w : World) (c kb d sb ob n : Nat) (L : Int → Sec) (N : Nat) (A : Option Addr) (m : Nat) (ys : List Value) (b1 b2 : Nat) (t1 t2 : TypeId) (v1 v2 : Value) (W : World) : Prop where
  cc : CcI W c kb d sb ob n L N
  src : BSrc W A m ys
  box1 : Boxed W b1 t1 v1
  box2 : Boxed W b2 t2 v2
  tch : Tch [c, kb, sb, ob] w W
theorem BwI.step {A : Option Addr} {m : Nat} {ys : List Value} {b1 b2 : Nat} {t1 t2 : TypeId} {v1 v2 : Value} {W W' : World} {r : Nat} (h : BwI w c kb d sb ob n L N A m ys b1 b2 t1 t2 v1 v2 W) (hl : CcI w c kb d sb ob n L' N') (hT : W.grownBy W' (some r)) (hr : w.heap.size ≤ r) (h1 : b1 ≠ r) (h2 : b2 ≠ r) (hu : ∀ b cs, Blk W b 5 cs → b ≠ r) : BwI w c kb d sb ob n L N A m ys b1 b2 t1 t2 v1 v2 W' := by
  have hlt := hl.lts
  exact ⟨h.cc.step (tch_g hT) (by omega) hu, h.src.tch (tch_g hT) (fun b cs hb => by have := hu b cs hb; simpa using this), h.box1.kept hT (by simpa using h1), h.box2.kept hT (by simpa using h2), h.tch.fresh (tch_g hT) (fun i hi => by simp at hi; subst hi; exact .inr hr)⟩
theorem BwI.none {A : Option Addr} {m : Nat} {ys : List Value} {b1 b2 : Nat} {t1 t2 : TypeId} {v1 v2 : Value} {W W' : World} (h : BwI w c kb d sb ob n L N A m ys b1 b2 t1 t2 v1 v2 W) (hg : W.grownBy W' none) : BwI w c kb d sb ob n L N A m ys b1 b2 t1 t2 v1 v2 W' := by
  have hb : Below W.heap.size W W' := bl_n (Below.refl _ _) hg
  exact ⟨h.cc.below hb, h.src.below hb, h.box1.kept hg (by simp), h.box2.kept hg (by simp), h.tch.trans (Tch.below hb)⟩
theorem notU8_box {W : World} {r : Nat} {t : TypeId} {v : Value} (h : Boxed W r t v) (ht : t ≠ 5) : ∀ b cs, Blk W b 5 cs → b ≠ r := fun b cs hb => blk_ne_tyD hb (show Blk W r t #[v] from h) (fun e => ht e.symm)
theorem notU8_obj {W : World} {r : Nat} {o : Obj} (h : W.heap[r]? = some o) (ho : o.isCells = false) : ∀ b cs, Blk W b 5 cs → b ≠ r := by
  rintro b cs hb rfl
  unfold Blk at hb
  rw [h] at hb
  injection hb with hb
  subst hb
  cases ho
def BlPost (w : World) (c kb d sb ob n : Nat) (L : Int → Sec) (N : Nat) (e : Ending) (w' : World) : Prop := e = .returned (.int .i64 0) ∧ CcI w' c kb d sb ob n L N ∧ Tch [c, kb, sb, ob] w w'
set_option maxRecDepth 100000 in
set_option maxHeartbeats 200000 in
theorem bl_write (h : CcI w c kb d sb ob n L N) (at0 : Nat) (X : List Sec) (hX : 1 ≤ X.length ∧ X.length ≤ 1024) (hat : at0 + X.length ≤ n) {A : Option Addr} {cap : Nat} (hs : BSrc w A (512 * X.length) (secsL X)) (hcap : 512 * X.length ≤ cap) (hN : N + X.length ≤ 900000) :
    Calls Tryz.prog 33 #[.pointer (some ⟨c, 0, none⟩), .int .i64 (at0 : Int), .slice A (512 * X.length) cap] w (BlPost w c kb d sb ob n (putL L at0 X) (N + X.length)) := by
  obtain ⟨b, off, rfl, _, _⟩ := hs.rng
  have H := Lib.hid h
  have HS := Lib.hid hs
  have HR := Lib.hid h.rng
  have HA := Lib.hid (And.intro hX (And.intro hat hN))
  obtain ⟨ln, hln⟩ : ∃ ln : Nat, ln = 512 * X.length := ⟨_, rfl⟩
  have HL := Lib.hid hln
  have HCp := Lib.hid hcap
  have hm := Lib.hid (bl_may h at0 X.length hat)
  have hq1 : ¬ (n : Int) = 0 := by have := h.rng; omega
  have hq1b : ((n : Int) == 0) = false := beq_eq_false_iff_ne.2 hq1
  have hq2 : (ln : Int).tmod 512 = 0 := by rw [Int.tmod_eq_emod_of_nonneg (by omega)]; omega
  have hq3 : (ln : Int).tdiv 512 = (X.length : Int) := by rw [Int.tdiv_eq_ediv_of_nonneg (by omega)]; omega
  have hxl : 1 ≤ (X.length : Int) ∧ (X.length : Int) ≤ 300000 := by have := h.rng; omega
  rw [← hln]
  clear h hs hX hat hN hln hcap
  refine (callsIn_wide (n := 4)).1 ?_
  refine callsIn_of_wp_marks Tryz.func33 rfl trivial ?_ rfl
  simp only [Tryz.ntmps33, List.size_toArray, List.length_cons, List.length_nil, Nat.reduceAdd, Nat.reduceSub, Array.replicate_succ, Array.replicate_zero, List.push_toArray, List.append_toArray, List.nil_append, List.cons_append]
  gi_wp2
  obtain ⟨w1, hw1⟩ : ∃ v, v = (w.alloc (Obj.cells #[Value.pointer (some ⟨c, 0, none⟩)] 29)).alloc (Obj.cells #[Value.int .i64 0] 35) := ⟨_, rfl⟩
  have hsz : (w.alloc (Obj.cells #[Value.pointer (some ⟨c, 0, none⟩)] 29)).heap.size = w.heap.size + 1 := by simp
  have KC := Lib.hid (show Boxed w1 w.heap.size 29 (.pointer (some ⟨c, 0, none⟩)) by rw [hw1]; exact (Boxed.new w _ _).alloc _)
  have KR := Lib.hid (show Boxed w1 (w.heap.size + 1) 35 (.int .i64 0) by
    rw [hw1, ← hsz]; exact Boxed.new _ _ _)
  have L1 := Lib.hid (show Below w.heap.size w w1 by rw [hw1]; exact ((Below.refl _ w).alloc (Nat.le_refl _) _).alloc (by simp) _)
  rw [← hw1]
  clear hw1 hsz hm
  have kc := KC.out.cell
  refine ⟨trivial, (callsIn_wide.2 (ci_sectors (H.out.below L1.out))).mono ?_⟩
  rintro e w2 ⟨rfl, rfl⟩
  gi_wp2
  refine ⟨trivial, (callsIn_wide.2 (bl_may (H.out.below L1.out) at0 X.length HA.out.2.1)).mono ?_⟩
  rintro e w2 ⟨rfl, rfl⟩
  gi_wp2
  refine ⟨trivial, (callsIn_wide.2 (bl_sectors _ _ _ _ _)).mono ?_⟩
  rintro e w3 ⟨Ba, Bb, rfl, ha, hb, hne, l1, l2, hlow⟩
  gi_wp2
  have hw13 := hlow.size
  have hw01 := L1.out.size
  have hb1 := KR.out.lt
  have HG := Lib.hid (And.intro hne (And.intro l1 (And.intro l2 (And.intro hw13 (And.intro hw01 hb1)))))
  have KC3 := Lib.hid (show Boxed w3 w.heap.size 29 (.pointer (some ⟨c, 0, none⟩)) from (hlow.block _ KC.out.lt).trans KC.out)
  have KR3 := Lib.hid (show Boxed w3 (w.heap.size + 1) 35 (.int .i64 0) from (hlow.block _ KR.out.lt).trans KR.out)
  have L3 := Lib.hid (show Below w.heap.size w w3 from L1.out.trans (hlow.mono L1.out.size))
  have HBa := Lib.hid ha
  have HBb := Lib.hid hb
  clear ha hb hlow hne l1 l2 hw13 hw01 hb1 kc hq1 hq1b hq2 hq3 hxl KC KR L1
  refine wpIn_range_sx (at0 := at0) (m := X.length) (b := b) (off := off) (c0 := cap) (Ba := Ba) (Bb := Bb) rfl (by omega) trivial (by have := HA.out; omega) (by have := HR.out; have := HA.out; omega) HG.out.1 HBa.out.lt HBb.out.lt rfl rfl
    (fun k W => BwI w c kb d sb ob n (putL L at0 (X.take k)) (N + k) (some ⟨b, off, none⟩) (512 * X.length) (secsL X) w.heap.size (w.heap.size + 1) 29 35 (.pointer (some ⟨c, 0, none⟩)) (.int .i64 0) W)
    ?hI ?h0 ?hB
    (fun k cp => { tmps := #[Value.pointer (some ⟨c, 0, none⟩), Value.int .i64 (at0 : Int), Value.slice (some ⟨b, off, none⟩) ln cap, Value.pointer (some ⟨w.heap.size, 0, none⟩), undef, undef, Value.pointer (some ⟨w.heap.size + 1, 0, none⟩), Value.int .i64 0,
      Value.int .i64 ((at0 + k : Nat) : Int), Value.slice (some ⟨b, off + 512 * k, none⟩) 512 cp, undef, Value.bool false, Value.pointer (some ⟨c, 0, none⟩), Value.int .i64 (n : Int),
      Value.bool false, Value.bool false, Value.slice (some ⟨b, off, none⟩) ln cap, Value.int .i64 (ln : Int), Value.int .i64 0, Value.bool false, Value.pointer (some ⟨c, 0, none⟩), Value.int .i64 (at0 : Int), Value.slice (some ⟨b, off, none⟩) ln cap, Value.int .i64 (ln : Int),
      Value.int .i64 (X.length : Int), Value.int .i64 0, Value.int .i64 0, Value.bool false, undef, Value.int .i64 (at0 : Int), Value.slice (some ⟨b, off, none⟩) ln cap,
      Value.func (Fn.func 115) #[] #[Value.pointer (some ⟨Bb, 0, none⟩), Value.pointer (some ⟨Ba, 0, none⟩)],
      Value.int .i64 ((at0 + k : Nat) : Int), Value.slice (some ⟨b, off + 512 * k, none⟩) 512 cp, undef, undef, undef, undef, undef, undef, undef], defers := [] })
    ?hassign ?hbody ?hdone
  case hI =>
    intro k W W' row h hg hr
    cases row with
    | none => exact h.none hg
    | some r =>
      rcases hr r rfl with (⟨rfl, v, hv⟩ | ⟨rfl, v, hv⟩) | ⟨hge, o, ho, hc⟩
      · exact h.step H.out hg (by have := HG.out; omega) (by have := HG.out; omega) (by have := HG.out; omega) (notU8_box hv (by decide))
      · exact h.step H.out hg (by have := HG.out; omega) (by have := HG.out; omega) (by have := HG.out; omega) (notU8_box hv (by decide))
      · exact h.step H.out hg (by have := HG.out; omega) (by have := HG.out; omega) (by have := HG.out; omega) (notU8_obj ho hc)
  case h0 => exact ⟨((H.out.below L3.out).congr (by rw [List.take_zero, putL_nil])), HS.out.below L3.out, KC3.out, KR3.out, Tch.below L3.out⟩
  case hB => exact ⟨HBa.out, some ⟨b, off, none⟩, by rw [Nat.sub_zero, ← HL.out]; exact HBb.out, fun h => ⟨by simp, by have := HCp.out; omega⟩⟩
  case hassign =>
    intro l k cp W K hK
    gi_wp2
    exact hK
  case hbody =>
    intro l k cp W hk hI hSx
    have kc := hI.box1.cell
    have hlts := H.out.lts
    obtain ⟨q, hq⟩ : ∃ q : Nat, q = at0 + k := ⟨_, rfl⟩
    obtain ⟨o1, ho1⟩ : ∃ o1 : Nat, o1 = off + 512 * k := ⟨_, rfl⟩
    have hsrc : BSrc W (some ⟨b, o1, none⟩) 512 (secL X[k]) := by
      have := hI.src.part (512 * k) 512 (by omega)
      rw [secsL_part X k hk, ← ho1] at this
      exact this
    have hcall := ci_write hI.cc q (by have := HA.out; omega) (cap := cp) hsrc (by have := HA.out; omega)
    have HI := Lib.hid hI
    have HQ := Lib.hid hq
    have HSx := Lib.hid hSx
    have HC := Lib.hid hcall
    have HK := Lib.hid hk
    have HLt := Lib.hid hlts
    rw [← hq, ← ho1]
    clear hq ho1 hsrc hI hSx hcall hlts
    gi_wp2
    refine ⟨trivial, (CallsIn.inRound l (callsIn_wide.2 HC.out)).mono ?_⟩
    rintro e W2 ⟨rfl, hC, hT⟩
    have hno : ∀ (r : Nat) (t : TypeId) (v : Value), Boxed W r t v → t ≠ 56 → Boxed W2 r t v := fun r t v hb ht => (hT.block r hb.lt (HI.out.cc.noBlk (show Blk W r t #[v] from hb) ht)).trans hb
    have H2 := Lib.hid (show BwI w c kb d sb ob n (putL L at0 (X.take (k + 1))) (N + (k + 1)) (some ⟨b, off, none⟩) (512 * X.length) (secsL X) w.heap.size (w.heap.size + 1) 29 35 (.pointer (some ⟨c, 0, none⟩)) (.int .i64 0) W2 from
      ⟨hC.congr (by rw [HQ.out]; exact putL_step L at0 X k HK.out), HI.out.cc.bsrc HI.out.src hT, hno _ _ _ HI.out.box1 (by decide), hno _ _ _ HI.out.box2 (by decide), HI.out.tch.trans hT⟩)
    have S2 := Lib.hid (show SxB Ba Bb at0 X.length b off k cp W2 from by
      obtain ⟨h1, A, h2, h3⟩ := HSx.out
      exact ⟨hno _ _ _ h1 (by decide), A, hno _ _ _ h2 (by decide), h3⟩)
    have K2 := Lib.hid (show KeepsFrom w3.heap.size W W2 from ⟨hT.size, fun r o hB hr ho => (hT.block r (Array.getElem?_eq_some_iff.1 hr).1 (by have := HLt.out; have := HG.out; simp; omega)).trans hr⟩)
    clear hC hT hno kc
    gi_wp2
    exact ⟨K2.out, H2.out, S2.out⟩
  case hdone =>
    intro D W hD hI hK
    rw [List.take_length] at hI
    have kr := hI.box2.cell
    have fr := hI.box2.frozen
    have HI := Lib.hid hI
    clear hI
    gi_wp2
    have K5 := (HI.out.box2.set (.int .i64 0))
    have hD1 : w.heap.size ≤ D := by have := L3.out.size; omega
    have hDn : D ≠ w.heap.size + 1 := by have := HG.out; omega
    have hK5 : (W.setCell ⟨w.heap.size + 1, 0, none⟩ (.int .i64 0)).heap[D]? = some (Obj.deferred (some [])) := (Below.heap_setCell W ⟨w.heap.size + 1, 0, none⟩ _ D hDn).trans hK
    refine ⟨by simp, .inl ⟨_, _, rfl, run_takeDeferred hK5, ?_⟩⟩
    have hc5 := cell_kept K5.cell (grownBy_putObj' _ D (.deferred none)) (fun r e => by cases e; exact ⟨_, hK5, rfl⟩)
    have hlts := H.out.lts
    have C5 := (HI.out.cc.step (tch_g (grownBy_setCell' W (w.heap.size + 1) (.int .i64 0))) (by omega) (notU8_box HI.out.box2 (by decide))).step (tch_g (grownBy_putObj' _ D (.deferred none))) (by omega) (notU8_obj hK5 rfl)
    have T5 := (HI.out.tch.fresh (tch_g (grownBy_setCell' W (w.heap.size + 1) (.int .i64 0))) (fun i hi => by simp at hi; subst hi; exact .inr (by omega))).fresh (tch_g (grownBy_putObj' _ D (.deferred none))) (fun i hi => by simp at hi; subst hi; exact .inr (by omega))
    refine ⟨.int .i64 0, ?_, rfl, C5, T5⟩
    simp [results, Tryz.f33, go_sem, hc5]
end
end Go.Proofs.YtpadifphnbdbpaaGreat
namespace Go.Proofs.YtpadifphnbdbpaaGreat
open Go.RowKit Go.Maps
set_option linter.unusedVariables false
set_option linter.unusedSimpArgs false
section
variable {w w' : World} {c kb d sb ob n : Nat} {L : Int → Sec} {N : Nat}
/-- The sectors from at0 on. -/
def secsAt (L : Int → Sec) (at0 k : Nat) : List Sec := (List.range k).map (fun j => L ((at0 + j : Nat) : Int))
theorem secsAt_succ (L : Int → Sec) (at0 k : Nat) : secsL (secsAt L at0 (k + 1)) = secsL (secsAt L at0 k) ++ secL (L ((at0 + k : Nat) : Int)) := by
  simp [secsAt, secsL, List.range_succ]
structure BrI (w : World) (c kb d sb ob n : Nat) (L : Int → Sec) (N at0 : Nat) (k : Nat) (v : Value) (wr : World) : Prop where
  cc : CcG wr c kb d sb ob n L (N + k) (fun g => v.ownBlock = some g)
  own : wr.ownsRow w.heap.size 5 1 v (512 * k) (secsL (secsAt L at0 k))
  tch : Tch [c, kb, sb, ob] w wr
def BrL (w : World) (c kb d sb ob n : Nat) (L : Int → Sec) (N at0 m : Nat) (gk : Nat) (v iv : Value) (wr : World) : Prop := ∃ k : Nat, iv = .int .i64 (k : Int) ∧ k ≤ m ∧ k + gk ≤ m ∧ m ≤ k + gk ∧ BrI w c kb d sb ob n L N at0 k v wr
def BrPost (w : World) (c kb d sb ob n : Nat) (L : Int → Sec) (N at0 m : Nat) (e : Ending) (w' : World) : Prop := ∃ v, e = .returned (.tuple #[v, .int .i64 0]) ∧ w'.ownsRow w.heap.size 5 1 v (512 * m) (secsL (secsAt L at0 m)) ∧ CcI w' c kb d sb ob n L (N + m) ∧ Tch [c, kb, sb, ob] w w'
theorem CcG.more {G : Nat → Prop} (h : CcG w c kb d sb ob n L N G) : CcG w c kb d sb ob n L N (fun g => G g ∨ w.heap.size ≤ g) := by
  obtain ⟨K, S, O, h1, h2, h3, h4, h5⟩ := h
  refine ⟨K, S, O, h1, h2, h3, h4, fun g hg => ?_⟩
  rcases hg with hg | hg
  · exact h5 g hg
  · intro p hp a ha e
    obtain ⟨b, off, cs, e2, hb, _⟩ := (h1.rows p hp).1
    rw [ha] at e2
    injection e2 with e2
    have := hb.lt
    rw [e2] at e
    simp only at e
    omega
/-- A row is appended to: onto a row of ours that holds none of the cache's. -/
theorem BrI.app {at0 k : Nat} {v v' : Value} {wr W W' : World} (h : BrI w c kb d sb ob n L N at0 k v wr) (hC : CcG W c kb d sb ob n L (N + (k + 1)) (fun g => v.ownBlock = some g)) (hT : Tch [c, kb, sb, ob] wr W) (ho : W'.ownsRow w.heap.size 5 1 v' (512 * (k + 1)) (secsL (secsAt L at0 (k + 1)))) (hg : W.grownBy W' v.ownBlock) (hn : v'.ownBlock = v.ownBlock ∨ v'.ownBlock = some W.heap.size) : BrI w c kb d sb ob n L N at0 (k + 1) v' W' := by
  have hM := hC.more
  have key : CcG W' c kb d sb ob n L (N + (k + 1)) (fun g => v.ownBlock = some g ∨ W.heap.size ≤ g) ∧ Tch [c, kb, sb, ob] w W' := by
    cases hv : v.ownBlock with
    | none =>
      rw [hv] at hg hM
      exact ⟨hM.below (bl_n (Below.refl _ _) hg), (h.tch.trans hT).trans (Tch.below (bl_n (Below.refl _ _) hg))⟩
    | some g =>
      rw [hv] at hg hM
      rcases (h.own).2 with ⟨e, _⟩ | ⟨g', cap, cur, e, a1, a2, _⟩
      · rw [e] at hv; cases hv
      · rw [e] at hv
        injection hv with hv
        simp only at hv
        subst hv
        have hb : Blk wr g' 5 cur := a2
        exact ⟨hM.turn (.inl rfl) (hb.tch hT (h.cc.ci.noBlk hb (by decide))) (tch_g hg), (h.tch.trans hT).fresh (tch_g hg) (fun i hi => by simp at hi; subst hi; exact .inr a1)⟩
  refine ⟨?_, ho, key.2⟩
  rcases hn with e | e
  · rw [e]; exact key.1.mono (fun g hg => .inl hg)
  · rw [e]; exact key.1.mono (fun g hg => by injection hg with hg; exact .inr (by omega))
set_option maxRecDepth 100000 in
set_option maxHeartbeats 1000000 in
theorem bl_read (h : CcI w c kb d sb ob n L N) (at0 m : Nat) (ham : at0 + m ≤ n) (hm : m ≤ 1024) (hN : N + m ≤ 900000) :
    Calls Tryz.prog 89 #[.pointer (some ⟨c, 0, none⟩), .int .i64 (at0 : Int), .int .i64 (m : Int)] w (BrPost w c kb d sb ob n L N at0 m) := by
  have H := Lib.hid h
  have HR := Lib.hid h.rng
  have HA := Lib.hid (And.intro ham hN)
  have hmay := Lib.hid (bl_may h at0 m ham)
  have hq1 : ¬ (n : Int) = 0 := by have := h.rng; omega
  have hq1b : ((n : Int) == 0) = false := beq_eq_false_iff_ne.2 hq1
  have hq2 : ¬ (m : Int) < 0 := by omega
  have hq3 : ¬ (1024 : Int) < (m : Int) := by omega
  have hq4 : (at0 : Int) ≤ 300000 := by have := h.rng; omega
  clear h ham hN
  go_enter Tryz.func89, Tryz.ntmps89
  go_upto_region 10 with (first
    | (go_at_call 20; refine (ci_sectors H.out).mono ?_; rintro e w1 ⟨rfl, rfl⟩)
    | (go_at_call 74; refine hmay.out.mono ?_; rintro e w1 ⟨rfl, rfl⟩))
  clear hmay hq1 hq1b hq2 hq3
  go_loopg [9, 32] m (fun gk v iv wr => BrL w c kb d sb ob n L N at0 m gk v iv wr)
  case atStart => exact ⟨0, rfl, by omega, by omega, by omega, H.out.cg.mono (fun g hg => by cases hg), World.ownsRow_nil _ _ _ _, Tch.refl _ _⟩
  case round =>
    obtain ⟨k, rfl, k1, k2, k3, hX⟩ := hrel
    have X := Lib.hid hX
    clear hX
    by_cases hk : k < m
    · have hkI : (k : Int) < (m : Int) := by omega
      obtain ⟨q, hq⟩ : ∃ q : Nat, q = at0 + k := ⟨_, rfl⟩
      have hqe : (at0 : Int) + (k : Int) = (q : Int) := by omega
      have HQ := Lib.hid hq
      have hqb : (q : Int) ≤ 300000 := by have := HR.out; have := HA.out; omega
      have HC := Lib.hid (cg_read X.out.cc (fun g hg => (own_atD X.out.own g hg).2) q (by have := HA.out; omega) (by have := HA.out; omega))
      clear hq
      go_wp2_with (first
        | (refine app_src rfl (.tmp 46) (.tmp 47) 78 (by rfl) w.heap.size 5 _ 1 1 Tryz.underlying78 infoByte rfl (by omega) u9 (512 * k) (secsL (secsAt L at0 k)) (by rfl) O9.out _ 512 (secL (L ((q : Nat) : Int))) (by rfl) (Src.of_own O3.out) (secL_one _) (by omega) (by omega) W3.out ?_; intro v6 w6 ho hg hn; have X6 := Lib.hid (X.out.app C3.out T3.out (by rw [secsAt_succ, ← HQ.out]; exact ho) hg hn); clear ho hg hn; simp only [Act.put, List.setIfInBounds_toArray, List.set_cons_zero, List.set_cons_succ])
        | (go_at_call 126; refine HC.out.mono ?_; rintro e w3 ⟨v3, rfl, ho, hC, hT⟩; obtain ⟨A3, cap3, rfl, _⟩ := own_slice ho; have O3 := Lib.hid ho; have C3 := Lib.hid (show CcG w3 c kb d sb ob n L (N + (k + 1)) (fun g => u9.ownBlock = some g) from hC); have T3 := Lib.hid hT; have O9 := Lib.hid (X.out.cc.own X.out.own hT); have W3 := Lib.hid (show w.heap.size ≤ w3.heap.size from Nat.le_trans X.out.tch.size hT.size); clear ho hC hT))
      go_roundg (gk - 1)
      case measure => omega
      case rel => exact ⟨k + 1, by first | rfl | (congr 1), by omega, by omega, by omega, X6.out⟩
    · have hkI : ¬ (k : Int) < (m : Int) := by omega
      obtain rfl : k = m := by omega
      obtain ⟨A9, c9, rfl, _⟩ := own_slice X.out.own
      go_wp2_with fail
      go_ret2
      exact ⟨_, rfl, X.out.own, X.out.cc.ci, X.out.tch⟩
end
end Go.Proofs.YtpadifphnbdbpaaGreat
