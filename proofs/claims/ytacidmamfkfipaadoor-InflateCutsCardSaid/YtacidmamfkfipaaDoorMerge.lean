/-
  huff.merge: two rows of packs put together and sorted, stably.
-/
import Derived.Test.YtacidmamfkfipaaDoorSortSmall
import Derived.Test.YtacidmamfkfipaaDoorMem2
namespace Go.Proofs.YtacidmamfkfipaaDoor
open Go.RowKit
set_option linter.unusedVariables false

theorem infoPack3 : (Tryd.prog.info? 149).map (fun i => (i.zero, i.size, i.bytes)) = some (some (.agg #[.int .i64 0, .slice none 0 0]), 2, 32) := by kernel_rfl
theorem flat_one {ps : List PV} (h : ∀ p ∈ ps, p.2.oneCell' = true) : ∀ v ∈ flat ps, v.oneCell' = true := by
  intro v hv
  unfold flat at hv
  obtain ⟨p, hp, hv⟩ := List.mem_flatMap.1 hv
  simp only [List.mem_cons, List.not_mem_nil, or_false] at hv
  rcases hv with rfl | rfl
  · rfl
  · exact h p hp

/-- A slice of packs, nil too, that some call has made. -/
structure PSl (w : World) (v : Value) (n : Nat) (ps : List PV) : Prop where
  own : w.ownsRow 0 149 2 v n (flat ps)
  one : ∀ p ∈ ps, p.2.oneCell' = true
theorem PSl.len {w : World} {v : Value} {n : Nat} {ps : List PV} (h : PSl w v n ps) : ps.length = n := by
  have := h.own.1
  rw [flat_len] at this; omega
theorem PSl.below {w w' : World} {v : Value} {n : Nat} {ps : List PV} (h : PSl w v n ps) (hb : Below w.heap.size w w') : PSl w' v n ps :=
  ⟨h.own.kept (row := none) ⟨hb.os, hb.tape, hb.output, hb.size, fun k hk _ => hb.block k hk⟩ (by cases hh : v.ownBlock <;> simp), h.one⟩

def ClonePost (n : Nat) (ps : List PV) (w : World) (e : Ending) (w' : World) : Prop :=
  ∃ v', e = .returned v' ∧ w'.ownsRow w.heap.size 149 2 v' n (flat ps) ∧ Below w.heap.size w w'

set_option maxHeartbeats 800000 in
theorem clone_any (g n cap : Nat) (ps : List PV) (w : World) (h : PSl w (.slice (some ⟨g, 0, none⟩) n cap) n ps) (hn : n ≤ 1000000) :
    Calls Tryd.prog 114 #[.slice (some ⟨g, 0, none⟩) n cap] w (ClonePost n ps w) := by
  have H := Lib.hid h
  clear h
  have hnil := Lib.run_eql_slice_nil (P := Tryd.prog)
  go_enter Tryd.func114, Tryd.ntmps114
  go_wp2_with (refine app_src rfl (.tmp 5) (.tmp 6) 147 rfl w.heap.size 149 _ 2 32 Tryd.underlying147 infoPack3 rfl (by omega) _ 0 [] rfl (World.ownsRow_made w #[] 0 (Nat.le_refl _) (by unfold maxLen; omega) rfl) _ n (flat ps) rfl ((Src.of_own H.out.own).alloc _) (flat_one H.out.one) (by omega) (by omega) (by simp) ?_; intro v' w1 ho hg hor; have HO := Lib.hid ho; have HG := Lib.hid hg; clear ho hg hor)
  go_ret
  refine ⟨v', rfl, ?_, ?_⟩
  · have := HO.out
    rwa [Nat.zero_add, List.nil_append] at this
  · exact bl_ag (Below.refl _ _) HG.out

/-- What 'merge' returns: a new row, sorted. -/
def MergePost (n m : Nat) (ps qs : List PV) (w : World) (e : Ending) (w' : World) : Prop :=
  ∃ g c, e = .returned (.slice (some ⟨g, 0, none⟩) (n + m) c) ∧ w.heap.size ≤ g ∧ PSl w' (.slice (some ⟨g, 0, none⟩) (n + m) c) (n + m) (stSort (ps ++ qs)) ∧ Below w.heap.size w w'

set_option maxHeartbeats 800000 in
theorem merge_any (N : Nat) (hst : StableSaid N) (g n cap : Nat) (ps : List PV) (u : Value) (m : Nat) (qs : List PV) (w : World) (h : PSl w (.slice (some ⟨g, 0, none⟩) n cap) n ps) (hu : PSl w u m qs)
    (hn : 0 < n) (hN : n + m ≤ N) (hN2 : N ≤ 1000000) (hsm : ∀ p ∈ ps ++ qs, Small p.1) :
    Calls Tryd.prog 88 #[.slice (some ⟨g, 0, none⟩) n cap, u] w (MergePost n m ps qs w) := by
  have H := Lib.hid h
  have HU := Lib.hid hu
  have HSM := Lib.hid hsm
  have HST := Lib.hid hst
  clear h hu hsm hst
  go_enter Tryd.func88, Tryd.ntmps88
  go_wp2_with fail
  refine (clone_any g n cap ps w H.out (by omega)).mono ?_
  rintro ev w1 ⟨v1, rfl, ho1, hb1⟩
  have HO1 := Lib.hid ho1
  have HB1 := Lib.hid hb1
  have HS := Lib.hid ((Src.of_own HU.out.own).below hb1)
  have hv1 := ho1.lt
  clear ho1 hb1
  have HV1 := Lib.hid hv1
  clear hv1
  go_wp2_with (refine app_src rfl (.tmp 7) (.tmp 8) 147 rfl w.heap.size 149 _ 2 32 Tryd.underlying147 infoPack3 rfl (by omega) _ n (flat ps) rfl HO1.out _ m (flat qs) rfl HS.out (flat_one HU.out.one) (by omega) (by omega) HB1.out.size ?_; intro v2 w2 ho hg hor; have HO2 := Lib.hid ho; have HG2 := Lib.hid hg; clear ho hg hor)
  have hL2 : Below w.heap.size w w2 := HB1.out.grown HG2.out HB1.out.size (fun k hk => (HV1.out k hk).1)
  have HL2 := Lib.hid hL2
  clear hL2
  obtain ⟨g2, c2, hv2, hg2, hlt2⟩ := HO2.out.form (by omega)
  subst hv2
  have HR2 : Hid (PRow w2 g2 (n + m) c2 (ps ++ qs)) := by
    refine ⟨?_, fun p hp => ?_⟩
    · rw [flat_append]
      exact ⟨HO2.out.1, HO2.out.2.imp id (fun ⟨a, b, c, d, _, f⟩ => ⟨a, b, c, d, Nat.zero_le _, f⟩)⟩
    · rcases List.mem_append.1 hp with hp | hp
      · exact H.out.one p hp
      · exact HU.out.one p hp
  go_wp2_with fail
  refine (HST.out (ps ++ qs) w2 g2 (n + m) c2 hN HR2.out HSM.out).mono ?_
  rintro ev w3 ⟨rfl, hr3, hg3⟩
  have HR3 := Lib.hid hr3
  have HL3 := Lib.hid (bl_g HL2.out hg3 hg2)
  clear hr3 hg3
  go_wp2
  go_ret
  exact ⟨g2, c2, rfl, hg2, ⟨HR3.out.own, HR3.out.one⟩, HL3.out⟩
end Go.Proofs.YtacidmamfkfipaaDoor
