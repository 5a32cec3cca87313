/-
  The document's fixed lengths.
-/
import Derived.Test.YtacidmamfkfipaaDoorRefCoded
namespace Go.Proofs.YtacidmamfkfipaaDoor
open Go.RowKit
set_option linter.unusedVariables false

theorem fx_at : ∀ i, i < 288 → fixedL.getD i 0 = (if i < 144 then 8 else if i < 256 then 9 else if i < 280 then 7 else 8) := by decide +kernel
theorem fx_len288 : fixedL.length = 288 := by decide +kernel
theorem fx_take (i : Nat) (h : i < 288) : fixedL.take (i + 1) = fixedL.take i ++ [fixedL.getD i 0] := take_snoc _ _ (by rw [fx_len288]; exact h)
def RFx (w : World) (k : Nat) (sv iv : Value) (wr : World) : Prop :=
  ∃ i A c, iv = .int .i64 ((i : Nat) : Int) ∧ i + k = 288 ∧ sv = .slice A i c ∧ wr.ownsRow w.heap.size 3 1 sv i ((fixedL.take i).map (Value.int .i64)) ∧ Below w.heap.size w wr
def RFd (w : World) (sv0 : Value) (g0 k : Nat) (sv iv : Value) (wr : World) : Prop :=
  ∃ j A c, iv = .int .i64 ((j : Nat) : Int) ∧ sv = .slice A j c ∧ j + k = 32 ∧ wr.ownsRow w.heap.size 3 1 sv j ((List.replicate j (5 : Int)).map (Value.int .i64)) ∧ Below w.heap.size w wr ∧ wr.ownsRow w.heap.size 3 1 sv0 288 (fixedL.map (Value.int .i64)) ∧ sv.ownBlock ≠ some g0 ∧ g0 < wr.heap.size
set_option maxHeartbeats 1600000 in
theorem rfixed_any (w : World) : Calls Tryd.prog 21 #[] w (FixedPost w) := by
  go_enter Tryd.func21, Tryd.ntmps21
  go_wp2
  go_loopg [2, 4] 288 (RFx w)
  case atStart => exact ⟨0, none, 0, rfl, by omega, rfl, ⟨rfl, .inl ⟨rfl, rfl⟩⟩, Below.refl _ _⟩
  case round =>
    obtain ⟨i, A, c, rfl, hi, rfl, ho, hb⟩ := hrel
    have HO := Lib.hid ho
    have HB := Lib.hid hb
    clear ho hb
    by_cases hlt : i < 288
    · have hltI : (i : Int) < 288 := by omega
      have HTk := Lib.hid (fx_take i hlt)
      have HAt := Lib.hid (fx_at i hlt)
      by_cases h1 : i < 144
      · have h1I : ¬ (144 : Int) ≤ (i : Int) := by omega
        have d1 : decide ((144 : Int) ≤ (i : Int)) = false := by simp; omega
        have d2 : decide ((256 : Int) ≤ (i : Int)) = false := by simp; omega
        rw [if_pos h1] at HAt
        go_wp2_with (refine app_int rfl (.tmp 23) (.tmp 25) rfl w.heap.size _ i _ wr.heap.size _ 3 rfl (HO.out.alloc _) rfl (Blk.made _ _ _) (by omega) (by have := HB.out.size; simp; omega) ?_; intro g6 cap6 w6 ho6 hg6 hor6 hlt6; have HO6 := Lib.hid ho6; have HG6 := Lib.hid hg6; clear ho6 hg6 hor6 hlt6)
        go_roundg (gk - 1)
        case rel =>
          refine ⟨i + 1, _, _, by go_num, by omega, rfl, ?_, ?_⟩
          · rw [HTk.out, HAt.out]; exact HO6.out
          · exact (HB.out.alloc HB.out.size _).grown HG6.out (by have := HB.out.size; simp; omega) (fun k hk => own_base HO.out hk)
        case measure => omega
      · have d1 : decide ((144 : Int) ≤ (i : Int)) = true := by simp; omega
        rw [if_neg h1] at HAt
        by_cases h2 : i < 256
        · have d2 : decide ((i : Int) < 256) = true := by simp; omega
          have d3 : decide ((256 : Int) ≤ (i : Int)) = false := by simp; omega
          rw [if_pos h2] at HAt
          go_wp2_with (refine app_int rfl (.tmp 23) (.tmp 25) rfl w.heap.size _ i _ wr.heap.size _ 3 rfl (HO.out.alloc _) rfl (Blk.made _ _ _) (by omega) (by have := HB.out.size; simp; omega) ?_; intro g6 cap6 w6 ho6 hg6 hor6 hlt6; have HO6 := Lib.hid ho6; have HG6 := Lib.hid hg6; clear ho6 hg6 hor6 hlt6)
          go_roundg (gk - 1)
          case rel =>
            refine ⟨i + 1, _, _, by go_num, by omega, rfl, ?_, ?_⟩
            · rw [HTk.out, HAt.out]; exact HO6.out
            · exact (HB.out.alloc HB.out.size _).grown HG6.out (by have := HB.out.size; simp; omega) (fun k hk => own_base HO.out hk)
          case measure => omega
        · have d2 : decide ((i : Int) < 256) = false := by simp; omega
          have d3 : decide ((256 : Int) ≤ (i : Int)) = true := by simp; omega
          rw [if_neg h2] at HAt
          by_cases h3 : i < 280
          · have d4 : decide ((i : Int) < 280) = true := by simp; omega
            rw [if_pos h3] at HAt
            go_wp2_with (refine app_int rfl (.tmp 23) (.tmp 25) rfl w.heap.size _ i _ wr.heap.size _ 3 rfl (HO.out.alloc _) rfl (Blk.made _ _ _) (by omega) (by have := HB.out.size; simp; omega) ?_; intro g6 cap6 w6 ho6 hg6 hor6 hlt6; have HO6 := Lib.hid ho6; have HG6 := Lib.hid hg6; clear ho6 hg6 hor6 hlt6)
            go_roundg (gk - 1)
            case rel =>
              refine ⟨i + 1, _, _, by go_num, by omega, rfl, ?_, ?_⟩
              · rw [HTk.out, HAt.out]; exact HO6.out
              · exact (HB.out.alloc HB.out.size _).grown HG6.out (by have := HB.out.size; simp; omega) (fun k hk => own_base HO.out hk)
            case measure => omega
          · have d4 : decide ((i : Int) < 280) = false := by simp; omega
            rw [if_neg h3] at HAt
            go_wp2_with (refine app_int rfl (.tmp 23) (.tmp 25) rfl w.heap.size _ i _ wr.heap.size _ 3 rfl (HO.out.alloc _) rfl (Blk.made _ _ _) (by omega) (by have := HB.out.size; simp; omega) ?_; intro g6 cap6 w6 ho6 hg6 hor6 hlt6; have HO6 := Lib.hid ho6; have HG6 := Lib.hid hg6; clear ho6 hg6 hor6 hlt6)
            go_roundg (gk - 1)
            case rel =>
              refine ⟨i + 1, _, _, by go_num, by omega, rfl, ?_, ?_⟩
              · rw [HTk.out, HAt.out]; exact HO6.out
              · exact (HB.out.alloc HB.out.size _).grown HG6.out (by have := HB.out.size; simp; omega) (fun k hk => own_base HO.out hk)
            case measure => omega
    · obtain rfl : i = 288 := by omega
      rw [List.take_of_length_le (by rw [fx_len288]; omega)] at HO
      obtain ⟨g0, cap0, hv0, _, hlt0⟩ := HO.out.form (by omega)
      injection hv0 with hv0 _ hv1
      subst hv0 hv1
      go_wp2
      go_loopg [3, 6] 32 (RFd w (.slice (some ⟨g0, 0, none⟩) 288 c) g0)
      case atStart => exact ⟨0, none, 0, rfl, rfl, by omega, ⟨rfl, .inl ⟨rfl, rfl⟩⟩, HB.out, HO.out, by simp [Value.ownBlock], hlt0⟩
      case round =>
        clear HO HB
        obtain ⟨j, A1, c1, rfl, rfl, hj, ho1, hb1, hx1, hx2, hx3⟩ := hrel
        have HO := Lib.hid ho1
        have HB := Lib.hid hb1
        have HX := Lib.hid hx1
        have HX2 := Lib.hid hx2
        clear ho1 hb1 hx1 hx2
        by_cases hjl : j < 32
        · have hltI : (j : Int) < 32 := by omega
          go_wp2_with (refine app_int rfl (.tmp 31) (.tmp 32) rfl w.heap.size _ j _ wr.heap.size _ 3 rfl (HO.out.alloc _) rfl (Blk.made _ _ _) (by omega) (by have := HB.out.size; simp; omega) ?_; intro g6 cap6 w6 ho6 hg6 hor6 hlt6; have HO6 := Lib.hid ho6; have HG6 := Lib.hid hg6; have HR6 := Lib.hid hor6; clear ho6 hg6 hor6 hlt6)
          go_roundg (gk - 1)
          case rel =>
            refine ⟨j + 1, _, _, by go_num, rfl, by omega, ?_, ?_, ?_, ?_, ?_⟩
            · have := HO6.out
              rw [← List.replicate_succ'] at this
              exact this
            · exact (HB.out.alloc HB.out.size _).grown HG6.out (by have := HB.out.size; simp; omega) (fun k hk => own_base HO.out hk)
            · exact (HX.out.alloc _).kept HG6.out (.inr (fun e => HX2.out e.symm))
            · intro he
              rcases HR6.out with e | e
              · exact HX2.out (e.trans (by simpa [Value.ownBlock] using he))
              · simp [Value.ownBlock] at he e; omega
            · have := HG6.out.size; simp at this; omega
          case measure => omega
        · obtain rfl : j = 32 := by omega
          go_wp2
          go_ret2
          exact ⟨_, _, _, _, rfl, RdI.of_own HX.out, RdI.of_own HO.out, HB.out⟩
end Go.Proofs.YtacidmamfkfipaaDoor
