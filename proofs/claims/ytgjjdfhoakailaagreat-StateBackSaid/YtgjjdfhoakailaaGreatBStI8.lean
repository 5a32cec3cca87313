/-
  what this claim needs of: StI8 (written by cut.py).
-/
import Derived.Test.YtgjjdfhoakailaaGreatBStI3
import Derived.Test.YtgjjdfhoakailaaGreatBStZ1
namespace Go.Proofs.YtgjjdfhoakailaaGreat
open Go.RowKit Go.Maps Go.Sort Go.Shelf
set_option linter.unusedVariables false
set_option linter.unusedSimpArgs false

def CloneIt (n : Nat) (l : List It) (w : World) (e : Ending) (w' : World) : Prop :=
  ∃ v, e = .returned v ∧ w'.ownsRow w.heap.size 56 73 v n (itsC l) ∧ Below w.heap.size w w'
set_option maxHeartbeats 800000 in
theorem cloneIt_any {w : World} {A : Option Addr} {n c : Nat} {l : List It} (h : Src w 73 (.slice A n c) n (itsC l)) (hl : l.length = n) (hn : n ≤ 1000000) :
    Calls Tryz.prog 76 #[.slice A n c] w (CloneIt n l w) := by
  have H := Lib.hid h
  have HL := Lib.hid hl
  clear h hl
  have hnil := Lib.run_eql_slice_nil (P := Tryz.prog)
  cases A with
  | none =>
    have h0 : n = 0 := by
      rcases Nat.eq_zero_or_pos n with h | h
      · exact h
      · obtain ⟨A, c', e, _, h2⟩ := H.out
        obtain ⟨b, off, h3, _⟩ := h2 h
        injection e with e1
        rw [← e1] at h3
        cases h3
    have H0 := Lib.hid h0
    clear h0
    go_enter Tryz.func76, Tryz.ntmps76
    go_wp2_with fail
    go_ret
    refine ⟨_, rfl, ⟨?_, .inl ⟨rfl, H0.out⟩⟩, Below.refl _ _⟩
    rw [itsC, flat_len itC_len, HL.out]
  | some a =>
    go_enter Tryz.func76, Tryz.ntmps76
    go_wp2_with (refine app_src rfl (.tmp 5) (.tmp 6) 41 rfl w.heap.size 56 _ 73 136 Tryz.underlying41 info_It (by kernel_rfl) (by omega) _ 0 [] rfl (World.ownsRow_made w #[] 0 (Nat.le_refl _) (by unfold maxLen; omega) rfl) _ n (itsC l) rfl (H.out.alloc _) (itsC_one l) (by omega) (by omega) (by simp) ?_; intro v' w1 ho hg hor; have HO := Lib.hid ho; have HG := Lib.hid hg; clear ho hg hor)
    go_ret
    refine ⟨v', rfl, ?_, ?_⟩
    · have := HO.out
      rwa [Nat.zero_add, List.nil_append] at this
    · exact bl_ag (Below.refl _ _) HG.out
set_option maxHeartbeats 800000 in
theorem ins_nil (w : World) :
    Calls Tryz.prog 119 #[.slice none 0 0, .int .i64 0, .int .i64 0, .func (.func 78) #[] #[]] w fun e w' => e = .returned (.tuple #[]) ∧ Below w.heap.size w w' := by
  go_enter Tryz.func119, Tryz.ntmps119
  go_wp2_with fail
  refine wp_loop_rounds 1 ?_
  rw [rounds_succ]
  go_wp2_with fail
  go_end0
  exact ⟨rfl, Below.refl _ _⟩
set_option maxHeartbeats 800000 in
theorem stable_nil (w : World) :
    Calls Tryz.prog 110 #[.slice none 0 0, .int .i64 0, .func (.func 78) #[] #[]] w fun e w' => e = .returned (.tuple #[]) ∧ Below w.heap.size w w' := by
  go_enter Tryz.func110, Tryz.ntmps110
  go_wp2_with fail
  refine wp_loop_rounds 1 ?_
  rw [rounds_succ]
  go_wp2_with fail
  refine (ins_nil w).mono ?_
  rintro ev w1 ⟨rfl, h4⟩
  have HP := Lib.hid h4
  clear h4
  go_wp2_with fail
  refine wp_loop_rounds 1 ?_
  rw [rounds_succ]
  go_wp2_with fail
  go_end0
  exact ⟨rfl, HP.out⟩
theorem sort_nil (w : World) :
    Calls Tryz.prog 77 #[.slice none 0 0, .func (.func 78) #[] #[]] w fun e w' => e = .returned (.tuple #[]) ∧ Below w.heap.size w w' := by
  go_enter Tryz.func77, Tryz.ntmps77
  go_wp2_with (go_at_call 110; refine (stable_nil w).mono ?_; rintro ev w1 ⟨rfl, h1⟩; have HP := Lib.hid h1; clear h1)
  go_end0
  exact ⟨rfl, HP.out⟩
/-- The items, those of the greatest snapshot first. -/
def SortIt (base n : Nat) (v : Value) (l : List It) (w : World) (e : Ending) (w' : World) : Prop :=
  e = .returned (.tuple #[]) ∧ (∃ L : List It, L.Perm l ∧ (L.Pairwise fun a b => b.snap ≤ a.snap) ∧ w'.ownsRow base 56 73 v n (itsC L)) ∧ Below base w w'
theorem sortIt_any {w : World} {base n : Nat} {v : Value} {l : List It} (h : w.ownsRow base 56 73 v n (itsC l)) (hl : l.length = n) (hn : n ≤ 1000000) (hb : base ≤ w.heap.size) (hs : ∀ i ∈ l, 0 ≤ i.snap ∧ i.snap ≤ 1073741824) :
    Calls Tryz.prog 77 #[v, .func (.func 78) #[] #[]] w (SortIt base n v l w) := by
  rcases h.2 with ⟨rfl, rfl⟩ | ⟨g, cap, cur, rfl, hg, h3⟩
  · refine (sort_nil w).mono ?_
    rintro e w1 ⟨rfl, hb1⟩
    have h0 : l = [] := List.eq_nil_of_length_eq_zero hl
    subst h0
    refine ⟨rfl, ⟨[], .refl _, List.Pairwise.nil, rfl, .inl ⟨rfl, rfl⟩⟩, ?_⟩
    exact hb1.mono hb
  · obtain ⟨ps, hps⟩ : ∃ ps : List PV, ps = l.map (fun i => (-i.snap, i)) := ⟨_, rfl⟩
    have e0 : ∀ i : It, itP (-i.snap, i) = i := fun i => by
      unfold itP
      cases i
      simp
    have e1 : ps.map itP = l := by
      rw [hps, List.map_map]
      exact (List.map_congr_left (fun i _ => e0 i)).trans (List.map_id _)
    have e2 : ∀ qs : List PV, (qs.flatMap fun p => itC (itP p)) = itsC (qs.map itP) := fun qs => by
      unfold itsC
      rw [List.flatMap_map]
    have hr : PRow w g n cap ps := ⟨by
      rw [e2, e1]
      exact ⟨h.1, .inr ⟨g, cap, cur, rfl, Nat.zero_le _, h3⟩⟩⟩
    refine (stableSaid_all ps w g n cap hn hr (fun p hp => ?_)).mono ?_
    · rw [hps] at hp
      obtain ⟨i, hi, rfl⟩ := List.mem_map.1 hp
      have := hs i hi
      constructor
      · show (-2305843009213693952 : Int) ≤ -i.snap
        omega
      · show -i.snap ≤ (2305843009213693952 : Int)
        omega
    · rintro e w1 ⟨rfl, h1, h2⟩
      refine ⟨rfl, ⟨(stSort ps).map itP, ?_, ?_, ?_⟩, ?_⟩
      · have := ((stSort_steq ps).1.symm).map itP
        rwa [e1] at this
      · refine List.pairwise_map.2 ((stSort_srt ps).imp (fun {a b} hab => ?_))
        show -b.1 ≤ -a.1
        omega
      · have := h1.own
        rw [e2] at this
        refine ⟨this.1, ?_⟩
        rcases this.2 with ⟨h4, _⟩ | ⟨g', cap', cur', h4, _, h5⟩
        · cases h4
        · injection h4 with h6 h7 h8
          injection h6 with h6
          injection h6 with h6 h9
          subst h6 h8
          exact .inr ⟨g, cap, cur', rfl, hg, h5⟩
      · exact (Below.refl base w).grown h2 hb (fun k hk => by injection hk with hk; omega)
end Go.Proofs.YtgjjdfhoakailaaGreat
