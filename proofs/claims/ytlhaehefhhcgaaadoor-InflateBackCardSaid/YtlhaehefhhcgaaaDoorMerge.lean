/-
  huff.merge: two rows of packs put together and sorted, stably.
  slices.Grow at nil, slices.Concat of two rows of numbers.
-/
import Derived.Test.YtlhaehefhhcgaaaDoorSortIns
import Derived.Test.YtlhaehefhhcgaaaDoorMem
import Derived.Lib.AppendZeros
namespace Go.Proofs.YtlhaehefhhcgaaaDoor
open Go.RowKit
set_option linter.unusedVariables false

theorem infoPack3 : (Tryd.prog.info? 149).map (fun i => (i.zero, i.size, i.bytes)) = some (some (.agg #[.int .i64 0, .slice none 0 0]), 2, 32) := by kernel_rfl
theorem flat_one {ps : List PV} (h : ∀ p ∈ ps, p.2.oneCell' = true) : ∀ v ∈ flat ps, v.oneCell' = true := by
  intro v hv
  unfold flat at hv
  obtain ⟨p, hp, hv⟩ := List.mem_flatMap.1 hv
  simp only [List.mem_cons, List.not_mem_nil, or_false] at hv
  rcases hv with rfl | rfl
  · rfl
  · exact h p hp

/-- A slice of packs, nil too, that some call has made. -/
structure PSl (w : World) (v : Value) (n : Nat) (ps : List PV) : Prop where
  own : w.ownsRow 0 149 2 v n (flat ps)
  one : ∀ p ∈ ps, p.2.oneCell' = true
theorem PSl.len {w : World} {v : Value} {n : Nat} {ps : List PV} (h : PSl w v n ps) : ps.length = n := by
  have := h.own.1
  rw [flat_len] at this; omega
theorem PSl.below {w w' : World} {v : Value} {n : Nat} {ps : List PV} (h : PSl w v n ps) (hb : Below w.heap.size w w') : PSl w' v n ps :=
  ⟨h.own.kept (row := none) ⟨hb.os, hb.tape, hb.output, hb.size, fun k hk _ => hb.block k hk⟩ (by cases hh : v.ownBlock <;> simp), h.one⟩

def ClonePost (n : Nat) (ps : List PV) (w : World) (e : Ending) (w' : World) : Prop :=
  ∃ v', e = .returned v' ∧ w'.ownsRow w.heap.size 149 2 v' n (flat ps) ∧ Below w.heap.size w w'

set_option maxHeartbeats 800000 in
theorem clone_any (g n cap : Nat) (ps : List PV) (w : World) (h : PSl w (.slice (some ⟨g, 0, none⟩) n cap) n ps) (hn : n ≤ 1000000) :
    Calls Tryd.prog 114 #[.slice (some ⟨g, 0, none⟩) n cap] w (ClonePost n ps w) := by
  have H := Lib.hid h
  clear h
  have hnil := Lib.run_eql_slice_nil (P := Tryd.prog)
  go_enter Tryd.func114, Tryd.ntmps114
  go_wp2_with (refine app_src rfl (.tmp 5) (.tmp 6) 147 rfl w.heap.size 149 _ 2 32 Tryd.underlying147 infoPack3 rfl (by omega) _ 0 [] rfl (World.ownsRow_made w #[] 0 (Nat.le_refl _) (by unfold maxLen; omega) rfl) _ n (flat ps) rfl ((Src.of_own H.out.own).alloc _) (flat_one H.out.one) (by omega) (by omega) (by simp) ?_; intro v' w1 ho hg hor; have HO := Lib.hid ho; have HG := Lib.hid hg; clear ho hg hor)
  go_ret
  refine ⟨v', rfl, ?_, ?_⟩
  · have := HO.out
    rwa [Nat.zero_add, List.nil_append] at this
  · exact bl_ag (Below.refl _ _) HG.out

/-- What 'merge' returns: a new row, sorted. -/
def MergePost (n m : Nat) (ps qs : List PV) (w : World) (e : Ending) (w' : World) : Prop :=
  ∃ g c, e = .returned (.slice (some ⟨g, 0, none⟩) (n + m) c) ∧ w.heap.size ≤ g ∧ PSl w' (.slice (some ⟨g, 0, none⟩) (n + m) c) (n + m) (stSort (ps ++ qs)) ∧ Below w.heap.size w w'

set_option maxHeartbeats 800000 in
theorem merge_any (N : Nat) (hst : StableSaid N) (g n cap : Nat) (ps : List PV) (u : Value) (m : Nat) (qs : List PV) (w : World) (h : PSl w (.slice (some ⟨g, 0, none⟩) n cap) n ps) (hu : PSl w u m qs)
    (hn : 0 < n) (hN : n + m ≤ N) (hN2 : N ≤ 1000000) (hsm : ∀ p ∈ ps ++ qs, Small p.1) :
    Calls Tryd.prog 88 #[.slice (some ⟨g, 0, none⟩) n cap, u] w (MergePost n m ps qs w) := by
  have H := Lib.hid h
  have HU := Lib.hid hu
  have HSM := Lib.hid hsm
  have HST := Lib.hid hst
  clear h hu hsm hst
  go_enter Tryd.func88, Tryd.ntmps88
  go_wp2_with fail
  refine (clone_any g n cap ps w H.out (by omega)).mono ?_
  rintro ev w1 ⟨v1, rfl, ho1, hb1⟩
  have HO1 := Lib.hid ho1
  have HB1 := Lib.hid hb1
  have HS := Lib.hid ((Src.of_own HU.out.own).below hb1)
  have hv1 := ho1.lt
  clear ho1 hb1
  have HV1 := Lib.hid hv1
  clear hv1
  go_wp2_with (refine app_src rfl (.tmp 7) (.tmp 8) 147 rfl w.heap.size 149 _ 2 32 Tryd.underlying147 infoPack3 rfl (by omega) _ n (flat ps) rfl HO1.out _ m (flat qs) rfl HS.out (flat_one HU.out.one) (by omega) (by omega) HB1.out.size ?_; intro v2 w2 ho hg hor; have HO2 := Lib.hid ho; have HG2 := Lib.hid hg; clear ho hg hor)
  have hL2 : Below w.heap.size w w2 := HB1.out.grown HG2.out HB1.out.size (fun k hk => (HV1.out k hk).1)
  have HL2 := Lib.hid hL2
  clear hL2
  obtain ⟨g2, c2, hv2, hg2, hlt2⟩ := HO2.out.form (by omega)
  subst hv2
  have HR2 : Hid (PRow w2 g2 (n + m) c2 (ps ++ qs)) := by
    refine ⟨?_, fun p hp => ?_⟩
    · rw [flat_append]
      exact ⟨HO2.out.1, HO2.out.2.imp id (fun ⟨a, b, c, d, _, f⟩ => ⟨a, b, c, d, Nat.zero_le _, f⟩)⟩
    · rcases List.mem_append.1 hp with hp | hp
      · exact H.out.one p hp
      · exact HU.out.one p hp
  go_wp2_with fail
  refine (HST.out (ps ++ qs) w2 g2 (n + m) c2 hN HR2.out HSM.out).mono ?_
  rintro ev w3 ⟨rfl, hr3, hg3⟩
  have HR3 := Lib.hid hr3
  have HL3 := Lib.hid (bl_g HL2.out hg3 hg2)
  clear hr3 hg3
  go_wp2
  go_ret
  exact ⟨g2, c2, rfl, hg2, ⟨HR3.out.own, HR3.out.one⟩, HL3.out⟩
end Go.Proofs.YtlhaehefhhcgaaaDoor
namespace Go.Proofs.YtlhaehefhhcgaaaDoor
open Go.RowKit
set_option linter.unusedVariables false

/-- 'append(nil, make([]int, n)...)', n at least one. -/
theorem app_zeros {w : World} {ops : Array Oper} {rest : List Oper} {o : Oper} {a : Act} {Q : Exit → Act → World → Prop} (hgd : o.guard = none) (s x : Operand)
    (ho : o.op = .call { callee := .builtin .append, args := #[s, x], argTypes := #[45, 3] }) (n : Nat) (h0 : 0 < n) (hn : n ≤ 35184372088832) (hs : a.eval s = .slice none 0 0) (hx : a.eval x = .int .i64 n)
    (h : ∀ cap w1, n ≤ cap → w1.ownsRow w.heap.size 3 1 (.slice (some ⟨w.heap.size, 0, none⟩) 0 cap) 0 [] → w.grownBy w1 none → wpList Tryd.prog ops Q rest (a.put o.dst (.slice (some ⟨w.heap.size, 0, none⟩) n cap)) w1) :
    wpList Tryd.prog ops Q (o :: rest) a w := by
  obtain ⟨i0, hi, hz0, hz1, hz2⟩ := info_parts infoInt
  have hr := Lib.run_append_nil_zeros (P := Tryd.prog) w 45 3 o.type 3 i0 _ .i64 .i64 Tryd.underlying45 Tryd.underlying3 hi hz0 n h0 (by omega) (by omega) (by rw [hz2]; omega)
  refine wpList_plain hgd fun K hK => ?_
  unfold Oper.wp execOp
  simp only [ho, resolve, invoke, builtin, Sem.run_bind, Sem.run_pure, Result.andThen_ok, List.map_toArray, List.map_cons, List.map_nil, hs, hx, hr]
  have hge := grownCap_ge w n 0 3
  have hle := grownCap_le_maxLen w n 0 3 (by unfold maxLen; omega)
  refine hK _ _ (h _ _ hge ⟨rfl, .inr ⟨w.heap.size, _, _, rfl, Nat.le_refl _, heap_alloc_new w.drew _, Nat.zero_le _, hle, ?_, by simp⟩⟩ ⟨rfl, rfl, rfl, by simp, fun k hk _ => Below.heap_alloc w.drew _ k hk⟩)
  simp only [Array.size_append, size_zeroCells, Value.cells]
  simp
  omega

def GrowPost (w : World) (e : Ending) (w' : World) : Prop := ∃ v', e = .returned v' ∧ w'.ownsRow w.heap.size 3 1 v' 0 [] ∧ Below w.heap.size w w'

set_option maxHeartbeats 800000 in
theorem grow_nil (n : Nat) (w : World) (hn : n ≤ 1000000) :
    Calls Tryd.prog 126 #[.slice none 0 0, .int .i64 n] w (GrowPost w) := by
  by_cases h0 : n = 0
  · subst h0
    go_enter Tryd.func126, Tryd.ntmps126
    go_wp2
    go_ret
    exact ⟨_, rfl, World.ownsRow_nil _ _ _ _, Below.refl _ _⟩
  · have h1 : (0 : Int) < n := by omega
    go_enter Tryd.func126, Tryd.ntmps126
    go_wp2_with (refine app_zeros rfl (.tmp 20) (.tmp 21) rfl n (by omega) (by omega) rfl rfl ?_; intro cap w1 hc ho hg; have HO := Lib.hid ho; have HG := Lib.hid hg; clear ho hg)
    go_ret
    exact ⟨_, rfl, HO.out, bl_n (Below.refl _ _) HG.out⟩

/-- A row of two slices of numbers, as a literal lays it. -/
def TwoPost (zs ys : List Int) (w : World) (e : Ending) (w' : World) : Prop :=
  ∃ v', e = .returned v' ∧ w'.ownsRow w.heap.size 3 1 v' (zs.length + ys.length) ((zs ++ ys).map (Value.int .i64)) ∧ Below w.heap.size w w'

def Cc1 (n m : Nat) (s i : Value) : Prop := ∃ k : Nat, k ≤ 2 ∧ i = .int .i64 k ∧ s = .int .i64 (if k = 0 then 0 else if k = 1 then n else n + m : Nat)
def Cc2 (zs ys : List Int) (w : World) (v i : Value) (wr : World) : Prop :=
  ∃ (k : Nat) (n : Nat) (l : List Int), k ≤ 2 ∧ i = .int .i64 k ∧ wr.ownsRow w.heap.size 3 1 v n (l.map (Value.int .i64)) ∧ (k = 0 ∧ l = [] ∨ k = 1 ∧ l = zs ∨ k = 2 ∧ l = zs ++ ys) ∧ Below w.heap.size w wr

set_option maxHeartbeats 1600000 in
theorem concat_two (B : Nat) (t : TypeId) (u v : Value) (n m : Nat) (zs ys : List Int) (w : World) (hb : Blk w B t #[u, v]) (hu : Src w 1 u n (zs.map (Value.int .i64))) (hv : Src w 1 v m (ys.map (Value.int .i64))) (hn : n ≤ 100000) (hm : m ≤ 100000) :
    Calls Tryd.prog 117 #[.slice (some ⟨B, 0, none⟩) 2 2] w (TwoPost zs ys w) := by
  have hn' : zs.length = n := by obtain ⟨_, _, _, h, _⟩ := hu; simpa using h
  have hm' : ys.length = m := by obtain ⟨_, _, _, h, _⟩ := hv; simpa using h
  obtain ⟨A1, c1, rfl, hu2⟩ := id hu
  obtain ⟨A2, c2, rfl, hv2⟩ := id hv
  clear hu2 hv2
  have HU := Lib.hid hu
  have HV := Lib.hid hv
  have HB := Lib.hid hb
  have HN := Lib.hid hn'
  have HM := Lib.hid hm'
  clear hu hv hn' hm'
  have q1 := hb.cell (i := 0) (v := .slice A1 n c1) rfl
  have q2 := hb.cell (i := 1) (v := .slice A2 m c2) rfl
  clear hb
  go_enter Tryd.func117, Tryd.ntmps117
  go_wp2
  go_loop [3, 11] (Cc1 n m) (fun _ i => 2 - (intOf i).toNat)
  case atStart => exact ⟨0, by omega, rfl, rfl⟩
  case round =>
    obtain ⟨k, hk, rfl, rfl⟩ := hrel
    have hk3 : k = 0 ∨ k = 1 ∨ k = 2 := by omega
    rcases hk3 with rfl | rfl | rfl
    · simp only [if_true]
      go_wp2
      go_round
      case rel => exact ⟨1, by omega, rfl, by simp⟩
      case measure => simp [intOf]
    · simp only [Nat.one_ne_zero, if_false, if_true]
      go_wp2
      go_round
      case rel => exact ⟨2, by omega, rfl, by simp⟩
      case measure => simp [intOf]
    · simp only [show (2 : Nat) ≠ 0 from by omega, show (2 : Nat) ≠ 1 from by omega, if_false]
      have hnm : n + m ≤ 1000000 := by omega
      generalize hs : n + m = s at *
      have HS := Lib.hid hs
      clear hs
      go_wp2_with fail
      refine (grow_nil s w hnm).mono ?_
      rintro ev w1 ⟨v1, rfl, ho1, hb1⟩
      have HO1 := Lib.hid ho1
      have HB1 := Lib.hid hb1
      clear ho1 hb1
      go_wp2
      go_loopw [6, 27] (Cc2 zs ys w) (fun _ i _ => 2 - (intOf i).toNat)
      case atStart => exact ⟨0, 0, [], by omega, rfl, HO1.out, .inl ⟨rfl, rfl⟩, HB1.out⟩
      case round =>
        obtain ⟨k, nn, l, hk, rfl, ho, hl, hbel⟩ := hrel
        have HO := Lib.hid ho
        have HBel := Lib.hid hbel
        clear ho hbel
        rename_i v6 _ _
        have q1' := (World.cell?_of_block (a := ⟨B, 0, none⟩) (HBel.out.block B HB.out.lt)).trans q1
        have q2' := (World.cell?_of_block (a := ⟨B, 1, none⟩) (HBel.out.block B HB.out.lt)).trans q2
        have HNN := Lib.hid (show nn = l.length by have := HO.out.1; simpa using this.symm)
        rcases hl with ⟨rfl, rfl⟩ | ⟨rfl, rfl⟩ | ⟨rfl, rfl⟩
        · obtain rfl : nn = 0 := by simpa using HNN.out
          go_wp2_with (refine app_src rfl (.tmp 31) (.tmp 32) 45 rfl w.heap.size 3 _ 1 8 Tryd.underlying45 infoInt rfl (by omega) _ 0 _ rfl HO.out _ n _ rfl (HU.out.below HBel.out) (ints_oneCell _ _) (by omega) (by omega) HBel.out.size ?_; intro v' w2 ho2 hg2 hor2; have HO2 := Lib.hid ho2; have HL2 := Lib.hid (HBel.out.grown hg2 HBel.out.size (fun k hk => (HO.out.lt k hk).1)); clear ho2 hg2 hor2)
          go_roundw
          case rel => exact ⟨1, 0 + n, zs, by omega, rfl, by simpa using HO2.out, .inr (.inl ⟨rfl, rfl⟩), HL2.out⟩
          case measure => simp [intOf]
        · go_wp2_with (refine app_src rfl (.tmp 31) (.tmp 32) 45 rfl w.heap.size 3 _ 1 8 Tryd.underlying45 infoInt rfl (by omega) _ nn _ rfl HO.out _ m _ rfl (HV.out.below HBel.out) (ints_oneCell _ _) (by have := HN.out; have := HNN.out; omega) (by have := HN.out; have := HNN.out; omega) HBel.out.size ?_; intro v' w2 ho2 hg2 hor2; have HO2 := Lib.hid ho2; have HL2 := Lib.hid (HBel.out.grown hg2 HBel.out.size (fun k hk => (HO.out.lt k hk).1)); clear ho2 hg2 hor2)
          go_roundw
          case rel => exact ⟨2, nn + m, l ++ ys, by omega, rfl, by simpa using HO2.out, .inr (.inr ⟨rfl, rfl⟩), HL2.out⟩
          case measure => simp [intOf]
        · go_wp2
          go_ret
          exact ⟨_, rfl, by rw [← List.length_append, ← HNN.out]; exact HO.out, HBel.out⟩
end Go.Proofs.YtlhaehefhhcgaaaDoor
