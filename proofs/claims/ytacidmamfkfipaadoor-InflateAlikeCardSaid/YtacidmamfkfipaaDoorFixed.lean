/-
  inflate's fixed lengths, walked.
-/
import Derived.Test.YtacidmamfkfipaaDoorCoded
namespace Go.Proofs.YtacidmamfkfipaaDoor
open Go.RowKit
set_option linter.unusedVariables false

theorem own_off {w : World} {g : Nat} {t e : TypeId} {cs : Array Value} {base size n : Nat} {v : Value} {xs : List Value} (hb : Blk w g t cs) (h : w.ownsRow base e size v n xs) (ht : t ≠ e) : some g ≠ v.ownBlock := by
  rcases h.2 with ⟨rfl, _⟩ | ⟨g', cap, cur, rfl, _, hg, _⟩
  · simp [Value.ownBlock]
  · intro he
    simp only [Value.ownBlock, Option.some.injEq] at he
    subst he
    unfold Blk at hb
    rw [hg] at hb
    injection hb with hb
    injection hb with _ e
    exact ht e.symm
theorem own_base {w : World} {base : Nat} {e : TypeId} {size n : Nat} {v : Value} {xs : List Value} (h : w.ownsRow base e size v n xs) {k : Nat} (hk : v.ownBlock = some k) : base ≤ k := by
  rcases h.2 with ⟨rfl, _⟩ | ⟨g', cap, cur, rfl, hb, _⟩
  · cases hk
  · simp only [Value.ownBlock, Option.some.injEq] at hk
    omega
def lenOf : Value → Nat
  | .slice _ n _ => n
  | _ => 0
/-- A row that grows by one number again and again. -/
def FxI (w : World) (l0 : List Int) (N : Nat) (v : Int) (g k : Nat) (sv : Value) (wr : World) : Prop :=
  ∃ j A c, sv = .slice A (l0.length + j) c ∧ l0.length + j ≤ N ∧ N ≤ l0.length + j + k ∧ wr.ownsRow w.heap.size 3 1 sv (l0.length + j) ((l0 ++ List.replicate j v).map (Value.int .i64)) ∧ Below w.heap.size w wr ∧ Blk wr g 111 #[.int .i64 (N : Int), .int .i64 v]
def FxD (w : World) (sv0 : Value) (g0 k : Nat) (sv : Value) (wr : World) : Prop :=
  ∃ j A c, sv = .slice A j c ∧ j ≤ 32 ∧ 32 ≤ j + k ∧ wr.ownsRow w.heap.size 3 1 sv j ((List.replicate j (5 : Int)).map (Value.int .i64)) ∧ Below w.heap.size w wr ∧ wr.ownsRow w.heap.size 3 1 sv0 288 (fixedL.map (Value.int .i64)) ∧ sv.ownBlock ≠ some g0 ∧ g0 < wr.heap.size
def fxPre : Nat → List Int
  | 0 => []
  | 1 => List.replicate 144 8
  | 2 => List.replicate 144 8 ++ List.replicate 112 9
  | 3 => List.replicate 144 8 ++ List.replicate 112 9 ++ List.replicate 24 7
  | _ => fixedL
def fxN : Nat → Nat
  | 0 => 0
  | 1 => 144
  | 2 => 256
  | 3 => 280
  | _ => 288
theorem fx_len (i : Nat) (hi : i ≤ 4) : (fxPre i).length = fxN i := by
  obtain rfl | rfl | rfl | rfl | rfl : i = 0 ∨ i = 1 ∨ i = 2 ∨ i = 3 ∨ i = 4 := by omega
  all_goals (simp only [fxPre, fixedL, fxN, List.length_append, List.length_replicate, List.length_nil])
def FxO (w : World) (k : Nat) (sv iv : Value) (wr : World) : Prop :=
  ∃ i A c, iv = .int .i64 ((i : Nat) : Int) ∧ i + k = 4 ∧ sv = .slice A (fxPre i).length c ∧ wr.ownsRow w.heap.size 3 1 sv (fxPre i).length ((fxPre i).map (Value.int .i64)) ∧ Below w.heap.size w wr
def FixedPost (w : World) (ev : Ending) (w' : World) : Prop :=
  ∃ A B ca cb, ev = .returned (.tuple #[.slice A 288 ca, .slice B 32 cb]) ∧ RdI .i64 w' A 288 fixedL ∧ RdI .i64 w' B 32 fixedD ∧ Below w.heap.size w w'
theorem fxIx0 (w : World) : (Instr.index 112 (.agg #[.int .i64 144, .int .i64 8, .int .i64 256, .int .i64 9, .int .i64 280, .int .i64 7, .int .i64 288, .int .i64 8]) (.int .i64 0)).run Tryd.prog w = .ok (.agg #[.int .i64 144, .int .i64 8]) w := by kernel_rfl
theorem fxIx1 (w : World) : (Instr.index 112 (.agg #[.int .i64 144, .int .i64 8, .int .i64 256, .int .i64 9, .int .i64 280, .int .i64 7, .int .i64 288, .int .i64 8]) (.int .i64 1)).run Tryd.prog w = .ok (.agg #[.int .i64 256, .int .i64 9]) w := by kernel_rfl
theorem fxIx2 (w : World) : (Instr.index 112 (.agg #[.int .i64 144, .int .i64 8, .int .i64 256, .int .i64 9, .int .i64 280, .int .i64 7, .int .i64 288, .int .i64 8]) (.int .i64 2)).run Tryd.prog w = .ok (.agg #[.int .i64 280, .int .i64 7]) w := by kernel_rfl
theorem fxIx3 (w : World) : (Instr.index 112 (.agg #[.int .i64 144, .int .i64 8, .int .i64 256, .int .i64 9, .int .i64 280, .int .i64 7, .int .i64 288, .int .i64 8]) (.int .i64 3)).run Tryd.prog w = .ok (.agg #[.int .i64 288, .int .i64 8]) w := by kernel_rfl
set_option maxHeartbeats 1600000 in
theorem fixed_any (w : World) : Calls Tryd.prog 30 #[] w (FixedPost w) := by
  have i0 := fxIx0
  have i1 := fxIx1
  have i2 := fxIx2
  have i3 := fxIx3
  go_enter Tryd.func30, Tryd.ntmps30
  go_wp2
  go_loopg [0, 9] 4 (FxO w)
  case atStart => exact ⟨0, none, 0, rfl, by omega, rfl, ⟨rfl, .inl ⟨rfl, rfl⟩⟩, Below.refl _ _⟩
  case round =>
    obtain ⟨i, A, c, rfl, hi, rfl, ho, hb⟩ := hrel
    obtain ⟨wo, rfl⟩ : ∃ wo : World, wo = wr := ⟨_, rfl⟩
    have HO := Lib.hid ho
    have HB := Lib.hid hb
    clear ho hb
    have hlen := fx_len i (by omega)
    generalize hl0 : fxPre i = l0 at *
    have HL := Lib.hid hl0
    have HLn := Lib.hid hlen
    clear hl0 hlen
    by_cases hi4 : i < 4
    · obtain rfl | rfl | rfl | rfl : i = 0 ∨ i = 1 ∨ i = 2 ∨ i = 3 := by omega
      ·
        go_wp2
        go_loopg [0] 288 (FxI w l0 144 8 wo.heap.size)
        case atStart =>
          refine ⟨0, _, _, rfl, by rw [HLn.out]; decide, by omega, ?_, HB.out.alloc HB.out.size _, Blk.made _ _ _⟩
          simpa using own_below HO.out ((Below.refl _ _).alloc (Nat.le_refl _) _)
        case round =>
          clear HO HB
          obtain ⟨j, A1, c1, rfl, hj, hk, ho1, hb1, hx1⟩ := hrel
          have HO := Lib.hid ho1
          have HB := Lib.hid hb1
          have HX := Lib.hid hx1
          have x0 := hx1.cell (i := 0) (v := .int .i64 144) rfl
          have x1 := hx1.cell (i := 1) (v := .int .i64 8) rfl
          clear ho1 hb1 hx1
          by_cases hlt : l0.length + j < 144
          · have hltI : (l0.length : Int) + j < 144 := by omega
            go_wp2_with (refine app_int rfl (.tmp 17) (.tmp 20) rfl w.heap.size _ (l0.length + j) _ wr.heap.size _ 3 rfl (HO.out.alloc _) rfl (Blk.made _ _ _) (by omega) (by have := HB.out.size; simp; omega) ?_; intro g6 cap6 w6 ho6 hg6 hor6 hlt6; have HO6 := Lib.hid ho6; have HG6 := Lib.hid hg6; clear ho6 hg6 hor6 hlt6)
            go_roundg (gk - 1)
            case rel =>
              refine ⟨j + 1, _, _, rfl, by omega, by omega, ?_, ?_, ?_⟩
              · have := HO6.out
                rw [List.append_assoc, ← List.replicate_succ'] at this
                exact this
              · exact (HB.out.alloc HB.out.size _).grown HG6.out (by have := HB.out.size; simp; omega) (fun k hk => own_base HO.out hk)
              · exact (HX.out.alloc _).grown HG6.out (own_off HX.out HO.out (by decide))
            case measure => omega
          · have hltI : ¬ (l0.length : Int) + j < 144 := by omega
            obtain rfl : j = 144 - l0.length := by omega
            go_wp2
            go_roundg (4 - (0 + 1))
            case rel =>
              have hL1 : fxPre (0 + 1) = l0 ++ List.replicate (144 - l0.length) 8 := by rw [HLn.out, ← HL.out]; rfl
              have hL2 : l0.length + (144 - l0.length) = (fxPre (0 + 1)).length := by rw [hL1]; simp
              refine ⟨0 + 1, A1, c1, by go_num, by omega, by rw [← hL2], ?_, HB.out⟩
              rw [← hL2, hL1]; exact HO.out
            case measure => omega
      ·
        go_wp2
        go_loopg [0] 288 (FxI w l0 256 9 wo.heap.size)
        case atStart =>
          refine ⟨0, _, _, rfl, by rw [HLn.out]; decide, by omega, ?_, HB.out.alloc HB.out.size _, Blk.made _ _ _⟩
          simpa using own_below HO.out ((Below.refl _ _).alloc (Nat.le_refl _) _)
        case round =>
          clear HO HB
          obtain ⟨j, A1, c1, rfl, hj, hk, ho1, hb1, hx1⟩ := hrel
          have HO := Lib.hid ho1
          have HB := Lib.hid hb1
          have HX := Lib.hid hx1
          have x0 := hx1.cell (i := 0) (v := .int .i64 256) rfl
          have x1 := hx1.cell (i := 1) (v := .int .i64 9) rfl
          clear ho1 hb1 hx1
          by_cases hlt : l0.length + j < 256
          · have hltI : (l0.length : Int) + j < 256 := by omega
            go_wp2_with (refine app_int rfl (.tmp 17) (.tmp 20) rfl w.heap.size _ (l0.length + j) _ wr.heap.size _ 3 rfl (HO.out.alloc _) rfl (Blk.made _ _ _) (by omega) (by have := HB.out.size; simp; omega) ?_; intro g6 cap6 w6 ho6 hg6 hor6 hlt6; have HO6 := Lib.hid ho6; have HG6 := Lib.hid hg6; clear ho6 hg6 hor6 hlt6)
            go_roundg (gk - 1)
            case rel =>
              refine ⟨j + 1, _, _, rfl, by omega, by omega, ?_, ?_, ?_⟩
              · have := HO6.out
                rw [List.append_assoc, ← List.replicate_succ'] at this
                exact this
              · exact (HB.out.alloc HB.out.size _).grown HG6.out (by have := HB.out.size; simp; omega) (fun k hk => own_base HO.out hk)
              · exact (HX.out.alloc _).grown HG6.out (own_off HX.out HO.out (by decide))
            case measure => omega
          · have hltI : ¬ (l0.length : Int) + j < 256 := by omega
            obtain rfl : j = 256 - l0.length := by omega
            go_wp2
            go_roundg (4 - (1 + 1))
            case rel =>
              have hL1 : fxPre (1 + 1) = l0 ++ List.replicate (256 - l0.length) 9 := by rw [HLn.out, ← HL.out]; rfl
              have hL2 : l0.length + (256 - l0.length) = (fxPre (1 + 1)).length := by rw [hL1]; simp
              refine ⟨1 + 1, A1, c1, by go_num, by omega, by rw [← hL2], ?_, HB.out⟩
              rw [← hL2, hL1]; exact HO.out
            case measure => omega
      ·
        go_wp2
        go_loopg [0] 288 (FxI w l0 280 7 wo.heap.size)
        case atStart =>
          refine ⟨0, _, _, rfl, by rw [HLn.out]; decide, by omega, ?_, HB.out.alloc HB.out.size _, Blk.made _ _ _⟩
          simpa using own_below HO.out ((Below.refl _ _).alloc (Nat.le_refl _) _)
        case round =>
          clear HO HB
          obtain ⟨j, A1, c1, rfl, hj, hk, ho1, hb1, hx1⟩ := hrel
          have HO := Lib.hid ho1
          have HB := Lib.hid hb1
          have HX := Lib.hid hx1
          have x0 := hx1.cell (i := 0) (v := .int .i64 280) rfl
          have x1 := hx1.cell (i := 1) (v := .int .i64 7) rfl
          clear ho1 hb1 hx1
          by_cases hlt : l0.length + j < 280
          · have hltI : (l0.length : Int) + j < 280 := by omega
            go_wp2_with (refine app_int rfl (.tmp 17) (.tmp 20) rfl w.heap.size _ (l0.length + j) _ wr.heap.size _ 3 rfl (HO.out.alloc _) rfl (Blk.made _ _ _) (by omega) (by have := HB.out.size; simp; omega) ?_; intro g6 cap6 w6 ho6 hg6 hor6 hlt6; have HO6 := Lib.hid ho6; have HG6 := Lib.hid hg6; clear ho6 hg6 hor6 hlt6)
            go_roundg (gk - 1)
            case rel =>
              refine ⟨j + 1, _, _, rfl, by omega, by omega, ?_, ?_, ?_⟩
              · have := HO6.out
                rw [List.append_assoc, ← List.replicate_succ'] at this
                exact this
              · exact (HB.out.alloc HB.out.size _).grown HG6.out (by have := HB.out.size; simp; omega) (fun k hk => own_base HO.out hk)
              · exact (HX.out.alloc _).grown HG6.out (own_off HX.out HO.out (by decide))
            case measure => omega
          · have hltI : ¬ (l0.length : Int) + j < 280 := by omega
            obtain rfl : j = 280 - l0.length := by omega
            go_wp2
            go_roundg (4 - (2 + 1))
            case rel =>
              have hL1 : fxPre (2 + 1) = l0 ++ List.replicate (280 - l0.length) 7 := by rw [HLn.out, ← HL.out]; rfl
              have hL2 : l0.length + (280 - l0.length) = (fxPre (2 + 1)).length := by rw [hL1]; simp
              refine ⟨2 + 1, A1, c1, by go_num, by omega, by rw [← hL2], ?_, HB.out⟩
              rw [← hL2, hL1]; exact HO.out
            case measure => omega
      ·
        go_wp2
        go_loopg [0] 288 (FxI w l0 288 8 wo.heap.size)
        case atStart =>
          refine ⟨0, _, _, rfl, by rw [HLn.out]; decide, by omega, ?_, HB.out.alloc HB.out.size _, Blk.made _ _ _⟩
          simpa using own_below HO.out ((Below.refl _ _).alloc (Nat.le_refl _) _)
        case round =>
          clear HO HB
          obtain ⟨j, A1, c1, rfl, hj, hk, ho1, hb1, hx1⟩ := hrel
          have HO := Lib.hid ho1
          have HB := Lib.hid hb1
          have HX := Lib.hid hx1
          have x0 := hx1.cell (i := 0) (v := .int .i64 288) rfl
          have x1 := hx1.cell (i := 1) (v := .int .i64 8) rfl
          clear ho1 hb1 hx1
          by_cases hlt : l0.length + j < 288
          · have hltI : (l0.length : Int) + j < 288 := by omega
            go_wp2_with (refine app_int rfl (.tmp 17) (.tmp 20) rfl w.heap.size _ (l0.length + j) _ wr.heap.size _ 3 rfl (HO.out.alloc _) rfl (Blk.made _ _ _) (by omega) (by have := HB.out.size; simp; omega) ?_; intro g6 cap6 w6 ho6 hg6 hor6 hlt6; have HO6 := Lib.hid ho6; have HG6 := Lib.hid hg6; clear ho6 hg6 hor6 hlt6)
            go_roundg (gk - 1)
            case rel =>
              refine ⟨j + 1, _, _, rfl, by omega, by omega, ?_, ?_, ?_⟩
              · have := HO6.out
                rw [List.append_assoc, ← List.replicate_succ'] at this
                exact this
              · exact (HB.out.alloc HB.out.size _).grown HG6.out (by have := HB.out.size; simp; omega) (fun k hk => own_base HO.out hk)
              · exact (HX.out.alloc _).grown HG6.out (own_off HX.out HO.out (by decide))
            case measure => omega
          · have hltI : ¬ (l0.length : Int) + j < 288 := by omega
            obtain rfl : j = 288 - l0.length := by omega
            go_wp2
            go_roundg (4 - (3 + 1))
            case rel =>
              have hL1 : fxPre (3 + 1) = l0 ++ List.replicate (288 - l0.length) 8 := by rw [HLn.out, ← HL.out]; rfl
              have hL2 : l0.length + (288 - l0.length) = (fxPre (3 + 1)).length := by rw [hL1]; simp
              refine ⟨3 + 1, A1, c1, by go_num, by omega, by rw [← hL2], ?_, HB.out⟩
              rw [← hL2, hL1]; exact HO.out
            case measure => omega
    · obtain rfl : i = 4 := by omega
      have hl288 : l0.length = 288 := HLn.out
      have hlf : fixedL = l0 := HL.out
      rw [hl288] at HO
      rw [← hlf] at HO
      rw [hl288]
      clear hl288 hlf HLn HL
      obtain ⟨g0, cap0, hv0, _, hlt0⟩ := HO.out.form (by omega)
      injection hv0 with hv0 _ hv1
      subst hv0 hv1
      go_wp2
      go_loopg [1] 32 (FxD w (.slice (some ⟨g0, 0, none⟩) 288 c) g0)
      case atStart => exact ⟨0, none, 0, rfl, by omega, by omega, ⟨rfl, .inl ⟨rfl, rfl⟩⟩, HB.out, HO.out, by simp [Value.ownBlock], hlt0⟩
      case round =>
        clear HO HB
        obtain ⟨j, A1, c1, rfl, hj, hk, ho1, hb1, hx1, hx2, hx3⟩ := hrel
        have HO := Lib.hid ho1
        have HB := Lib.hid hb1
        have HX := Lib.hid hx1
        have HX2 := Lib.hid hx2
        clear ho1 hb1 hx1 hx2
        by_cases hlt : j < 32
        · have hltI : (j : Int) < 32 := by omega
          go_wp2_with (refine app_int rfl (.tmp 26) (.tmp 27) rfl w.heap.size _ j _ wr.heap.size _ 3 rfl (HO.out.alloc _) rfl (Blk.made _ _ _) (by omega) (by have := HB.out.size; simp; omega) ?_; intro g6 cap6 w6 ho6 hg6 hor6 hlt6; have HO6 := Lib.hid ho6; have HG6 := Lib.hid hg6; have HR6 := Lib.hid hor6; clear ho6 hg6 hor6 hlt6)
          go_roundg (gk - 1)
          case rel =>
            refine ⟨j + 1, _, _, rfl, by omega, by omega, ?_, ?_, ?_, ?_, ?_⟩
            · have := HO6.out
              rw [← List.replicate_succ'] at this
              exact this
            · exact (HB.out.alloc HB.out.size _).grown HG6.out (by have := HB.out.size; simp; omega) (fun k hk => own_base HO.out hk)
            · exact (HX.out.alloc _).kept HG6.out (.inr (fun e => HX2.out e.symm))
            · intro he
              rcases HR6.out with e | e
              · exact HX2.out (e.trans (by simpa [Value.ownBlock] using he))
              · simp [Value.ownBlock] at he e; omega
            · have := HG6.out.size; simp at this; omega
          case measure => omega
        · obtain rfl : j = 32 := by omega
          go_wp2
          go_ret2
          exact ⟨_, _, _, _, rfl, RdI.of_own HX.out, RdI.of_own HO.out, HB.out⟩
end Go.Proofs.YtacidmamfkfipaaDoor
