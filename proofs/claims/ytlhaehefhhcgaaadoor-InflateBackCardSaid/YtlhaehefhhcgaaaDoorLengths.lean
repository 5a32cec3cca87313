/-
  huff.Lengths: what it returns for any weights.
-/
import Derived.Test.YtlhaehefhhcgaaaDoorPairs
namespace Go.Proofs.YtlhaehefhhcgaaaDoor
open Go.RowKit
set_option linter.unusedVariables false

theorem own_zero {w : World} {base : Nat} {e : TypeId} {size n : Nat} {v : Value} {xs : List Value} (h : w.ownsRow base e size v n xs) : w.ownsRow 0 e size v n xs :=
  ⟨h.1, h.2.imp id (fun ⟨a, b, c, d, _, f⟩ => ⟨a, b, c, d, Nat.zero_le _, f⟩)⟩

/-- What 'Lengths' returns. -/
def LenPost (l : List Int) (most : Int) (n : Nat) (w : World) (e : Ending) (w' : World) : Prop :=
  (lengthsOk l most = false ∧ e = .returned (.tuple #[.slice none 0 0, .int .i64 2]) ∧ Below w.heap.size w w') ∨
  (lengthsOk l most = true ∧ ∃ A c, e = .returned (.tuple #[.slice A n c, .int .i64 0]) ∧ w'.ownsRow w.heap.size 3 1 (.slice A n c) n ((lengthsOf l most.toNat).map (Value.int .i64)) ∧ Below w.heap.size w w')
theorem len_no {l : List Int} {most : Int} {n : Nat} {w w1 : World} (h : lengthsOk l most = false) (hb : Below w.heap.size w w1) : LenPost l most n w (.returned (.tuple #[.slice none 0 0, .int .i64 2])) w1 := .inl ⟨h, rfl, hb⟩
theorem len_yes {l : List Int} {most : Int} {n : Nat} {w w1 : World} {A : Option Addr} {c : Nat} (h : lengthsOk l most = true) (ho : w1.ownsRow w.heap.size 3 1 (.slice A n c) n ((lengthsOf l most.toNat).map (Value.int .i64))) (hb : Below w.heap.size w w1) :
    LenPost l most n w (.returned (.tuple #[.slice A n c, .int .i64 0])) w1 := .inr ⟨h, A, c, rfl, ho, hb⟩

theorem lenOk_big {l : List Int} {most : Int} (h : 288 < l.length) : lengthsOk l most = false := by
  have : decide (l.length ≤ 288) = false := by simp; omega
  simp [lengthsOk, this]
theorem lenOk_lo {l : List Int} {most : Int} (h : most < 1) : lengthsOk l most = false := by
  have : decide (1 ≤ most) = false := by simp; omega
  simp [lengthsOk, this]
theorem lenOk_hi {l : List Int} {most : Int} (h : 15 < most) : lengthsOk l most = false := by
  have : decide (most ≤ 15) = false := by simp; omega
  simp [lengthsOk, this]
theorem lenOk_bad {l : List Int} {most : Int} {k : Nat} (hk : k < l.length) (h : l.getD k 0 < 0 ∨ 1048576 < l.getD k 0) : lengthsOk l most = false := by
  have : l.all fairF = false := by
    rw [List.all_eq_false]
    refine ⟨l.getD k 0, by simp [hk], ?_⟩
    simp only [fairF, Bool.and_eq_true, decide_eq_true_eq]
    omega
  simp [lengthsOk, this]
theorem lenOk_many {l : List Int} {most : Int} (h : 2 ^ most.toNat < (onesOf l).length) : lengthsOk l most = false := by
  have : decide ((onesOf l).length ≤ 2 ^ most.toNat) = false := by simp; omega
  simp [lengthsOk, this]

theorem pvs_sort (z : List TP) : stSort (pvs z) = pvs (stSort z) := (stSort_map (fun t : Value × List Int => t.1) z).symm
theorem aps_sort (z : List TP) : aps (stSort z) = stSort (aps z) := stSort_map (fun t : Value × List Int => t.2) z
theorem pvs_append (a b : List TP) : pvs (a ++ b) = pvs a ++ pvs b := by simp [pvs]
theorem aps_append (a b : List TP) : aps (a ++ b) = aps a ++ aps b := by simp [aps]
theorem mem_sort {z : List TP} {t : TP} (h : t ∈ stSort z) : t ∈ z := ((stSort_steq z).mem t).2 h
theorem small_of {z : List TP} (h : Fair z) : ∀ p ∈ pvs z, Small p.1 := by
  intro p hp
  simp only [pvs, List.mem_map] at hp
  obtain ⟨t, ht, rfl⟩ := hp
  have := h t ht
  unfold Small; dsimp only; omega
theorem fair_of {z : List TP} {l : List AP} (h : aps z = l) (hl : ∀ p ∈ l, 0 ≤ p.1 ∧ p.1 ≤ 1000000000000 ∧ p.2.length ≤ 50000) : Fair z := by
  intro t ht
  have : (t.1, t.2.2) ∈ aps z := by simp only [aps, List.mem_map]; exact ⟨t, ht, rfl⟩
  rw [h] at this
  exact hl _ this
theorem pos_pvs {z : List TP} (v : ∀ t ∈ z, ∃ w, Sym w t.2.1 t.2.2) : ∀ p ∈ pvs z, p.2.oneCell' = true := by
  intro p hp
  simp only [pvs, List.mem_map] at hp
  obtain ⟨t, ht, rfl⟩ := hp
  obtain ⟨w, hw⟩ := v t ht
  exact hw.one

/-- The row 'out' when the symbols syms have been counted. -/
def outs (n : Nat) (syms : List Int) : List Value := (List.range n).map fun s => Value.int .i64 (cnt syms s)
theorem outs_len (n : Nat) (syms : List Int) : (outs n syms).length = n := by simp [outs]
theorem outs_nil (n : Nat) : List.replicate n (Value.int .i64 0) = outs n [] := by
  apply List.ext_getElem
  · simp [outs]
  · intro i h1 h2; simp [outs, cnt]
theorem outs_at (n : Nat) (syms : List Int) (s : Nat) (h : s < n) : (outs n syms)[s]? = some (.int .i64 (cnt syms s)) := by simp [outs, h]
theorem outs_step (n : Nat) (syms : List Int) (s : Nat) (h : s < n) : (outs n syms).set s (.int .i64 ((cnt syms s : Int) + 1)) = outs n (syms ++ [(s : Int)]) := by
  apply List.ext_getElem
  · simp [outs]
  · intro i h1 h2
    rw [List.getElem_set]
    simp only [outs, List.getElem_map, List.getElem_range, cnt_snoc]
    by_cases hi : s = i
    · subst hi; simp
    · rw [if_neg hi, if_neg (by omega)]; simp

theorem lens0 {l : List Int} {ms : Nat} (h : (onesOf l).length = 0) : (lengthsOf l ms).map (Value.int .i64) = outs l.length [] := by
  unfold lengthsOf
  rw [if_pos h, ← outs_nil]; simp
theorem lens1 {l : List Int} {ms : Nat} (h : (onesOf l).length = 1) : (lengthsOf l ms).map (Value.int .i64) = outs l.length (symsOf (onesOf l)) := by
  unfold lengthsOf outs
  rw [if_neg (by omega), if_pos h, List.map_map]; rfl
theorem lens2 {l : List Int} {ms : Nat} (h : 2 ≤ (onesOf l).length) : (lengthsOf l ms).map (Value.int .i64) = outs l.length (symsOf ((rowAt (stSort (onesOf l)) (ms - 1)).take (2 * (onesOf l).length - 2))) := by
  unfold lengthsOf outs
  rw [if_neg (by omega), if_neg (by omega), List.map_map]; rfl

/-- The relation of the first loop: packs of single symbols. -/
def N1 (l : List Int) (n : Nat) (w : World) (v i : Value) (wr : World) : Prop :=
  ∃ (k : Nat) (z : List TP) (m : Nat), k ≤ n ∧ i = .int .i64 k ∧ wr.ownsRow w.heap.size 149 2 v m (flat (pvs z)) ∧ (∀ t ∈ z, Sym wr t.2.1 t.2.2) ∧ aps z = onesOf (l.take k) ∧ (l.take k).all fairF = true ∧ Below w.heap.size w wr
/-- The relation of the second loop: the rows. w: the world behind the first merge; g9: the block of 'out'. -/
def N2 (l : List Int) (ms : Nat) (w : World) (g9 : Nat) (v i : Value) (wr : World) : Prop :=
  ∃ (k : Nat) (z : List TP) (g n c : Nat), k ≤ ms - 1 ∧ i = .int .i64 k ∧ v = .slice (some ⟨g, 0, none⟩) n c ∧ PRw wr v n z ∧ (∀ t ∈ z, t.2.1.ownBlock ≠ some g9) ∧ aps z = rowAt (stSort (onesOf l)) k ∧ Below w.heap.size w wr
/-- The relation of the third loop: p packs are counted. -/
def N3 (n m : Nat) (z : List TP) (w : World) (g9 : Nat) (i : Value) (wr : World) : Prop :=
  ∃ p : Nat, p ≤ m ∧ i = .int .i64 p ∧ wr.ownsRow 0 3 1 (.slice (some ⟨g9, 0, none⟩) n n) n (outs n (symsOf (aps (z.take p)))) ∧ w.grownBy wr (some g9)
/-- The relation of the fourth loop: q symbols of a pack are counted. -/
def N4 (n : Nat) (done syms : List Int) (w : World) (g9 : Nat) (i : Value) (wr : World) : Prop :=
  ∃ q : Nat, q ≤ syms.length ∧ i = .int .i64 q ∧ wr.ownsRow 0 3 1 (.slice (some ⟨g9, 0, none⟩) n n) n (outs n (done ++ syms.take q)) ∧ w.grownBy wr (some g9)

theorem sym_one (W : World) (o : Obj) (y : Int) : Sym ((W.alloc (.cells #[.int .i64 y] 3)).alloc o) (.slice (some ⟨W.heap.size, 0, none⟩) 1 1) [y] :=
  ⟨rfl, .inr ⟨W.heap.size, 1, #[.int .i64 y], rfl, Nat.zero_le _, (Blk.made W 3 #[.int .i64 y]).alloc o, by simp, by unfold maxLen; simp, rfl, rfl⟩⟩
set_option maxHeartbeats 1600000 in
theorem lengths_any (N : Nat) (hst : StableSaid N) (hN2 : N ≤ 1000000) (l : List Int) (A : Option Addr) (n cap : Nat) (most : Int) (w : World) (hr : RdI .i64 w A n l) (hn : n ≤ 4611686018427387904) (hms : -9223372036854775808 ≤ most ∧ most ≤ 9223372036854775807) (hN : 2 * (onesOf l).length ≤ N ∨ 288 < n) :
    Calls Tryd.prog 49 #[.slice A n cap, .int .i64 most] w (LenPost l most n w) := by
  have HR := Lib.hid hr
  have HL := Lib.hid hr.1
  have HN := Lib.hid hN
  have HST := Lib.hid hst
  clear hr hN hst
  by_cases h1 : 288 < n
  · have d1 : decide ((288 : Int) < n) = true := by simp; omega
    go_enter Tryd.func49, Tryd.ntmps49
    go_wp2
    go_ret2
    exact len_no (lenOk_big (by rw [HL.out]; exact h1)) (Below.refl _ _)
  have d1 : decide ((288 : Int) < n) = false := by simp; omega
  by_cases h2 : most < 1
  · have d2 : decide (most < 1) = true := by simpa using h2
    go_enter Tryd.func49, Tryd.ntmps49
    go_wp2
    go_ret2
    exact len_no (lenOk_lo h2) (Below.refl _ _)
  have d2 : decide (most < 1) = false := by simp; omega
  by_cases h3 : 15 < most
  · have d3 : decide (15 < most) = true := by simpa using h3
    go_enter Tryd.func49, Tryd.ntmps49
    go_wp2
    go_ret2
    exact len_no (lenOk_hi h3) (Below.refl _ _)
  have d3 : decide (15 < most) = false := by simp; omega
  go_enter Tryd.func49, Tryd.ntmps49
  go_wp2
  go_loopw [6, 28] (N1 l n w) (fun _ i _ => n - (intOf i).toNat)
  case atStart => exact ⟨0, [], 0, by omega, rfl, World.ownsRow_nil _ _ _ _, by simp, rfl, rfl, Below.refl _ _⟩
  case round =>
    obtain ⟨k, z, m, hk, rfl, ho, hs, hz, hfa, hbel⟩ := hrel
    have HO := Lib.hid ho
    have HS := Lib.hid hs
    have HZ := Lib.hid hz
    have HFA := Lib.hid hfa
    have HBel := Lib.hid hbel
    clear ho hs hz hfa hbel
    have HM := Lib.hid (show m = (onesOf (l.take k)).length by have h1 := HO.out.1; rw [flat_len] at h1; have h2 := congrArg List.length HZ.out; simp [pvs, aps] at h1 h2; omega)
    have hmk : m ≤ k := by
      rw [HM.out]
      refine Nat.le_trans (ones_facts _ HFA.out).2.2.2 (List.length_take_le _ _)
    by_cases hlt : k < n
    · obtain ⟨b, off, rfl, hblt, hc⟩ := HR.out.cell HBel.out hlt
      have hkl : k < l.length := by have := HL.out; omega
      have HT := Lib.hid (take_snoc l k hkl)
      have HBad := Lib.hid (fun h => lenOk_bad (l := l) (most := most) hkl h)
      generalize l.getD k 0 = f at *
      by_cases hneg : f < 0
      · have dn : decide (f < 0) = true := by simpa using hneg
        have HNo := Lib.hid (HBad.out (.inl hneg))
        go_wp2
        go_ret2
        exact len_no HNo.out HBel.out
      have dn : decide (f < 0) = false := by simp; omega
      by_cases hbig : 1048576 < f
      · have db : decide (1048576 < f) = true := by simpa using hbig
        have HNo := Lib.hid (HBad.out (.inr hbig))
        go_wp2
        go_ret2
        exact len_no HNo.out HBel.out
      have db : decide (1048576 < f) = false := by simp; omega
      clear HBad
      by_cases hpos : 0 < f
      · go_wp2_with (refine app_src rfl (.tmp 41) (.tmp 46) 147 rfl w.heap.size 149 _ 2 32 Tryd.underlying147 infoPack3 rfl (by omega) _ m _ rfl ((HO.out.alloc _).alloc _) _ 1 (flat [(f, .slice (some ⟨wr.heap.size, 0, none⟩) 1 1)]) rfl (Src.of_blk (Blk.made_at _ _ _ (by simp)) rfl) (flat_one (by simp [Value.oneCell'])) (by omega) (by omega) (by have := HBel.out.size; simp; omega) ?_; intro v4 w4 ho4 hg4 hor4; have O4 := Lib.hid ho4; have G4 := Lib.hid hg4; clear ho4 hg4 hor4)
        have HL2 : Below wr.heap.size wr ((wr.alloc (Obj.cells #[Value.int IntKind.i64 ↑k] 3)).alloc (Obj.cells #[Value.int IntKind.i64 f, Value.slice (some ⟨wr.heap.size, 0, none⟩) 1 1] 149)) := ((Below.refl _ _).alloc (Nat.le_refl _) _).alloc (by simp) _
        have M4 := Lib.hid ((below_chain HBel.out HL2).grown G4.out (below_chain HBel.out HL2).size (fun k hk => (HO.out.lt k hk).1))
        have hown2 := own_below HO.out HL2
        have S4 : Hid (∀ t ∈ z ++ [(f, .slice (some ⟨wr.heap.size, 0, none⟩) 1 1, [(k : Int)])], Sym w4 t.2.1 t.2.2) := fun t ht => by
          rcases List.mem_append.1 ht with ht | ht
          · exact World.ownsRow.kept ((HS.out t ht).below HL2) G4.out (own_apart ((HS.out t ht).below HL2) hown2 (by decide))
          · obtain rfl : t = _ := by simpa using ht
            exact World.ownsRow.kept (sym_one _ _ _) G4.out (own_apart (sym_one _ _ _) hown2 (by decide))
        clear hown2 HL2 G4
        go_roundw
        case rel =>
          refine ⟨k + 1, _, m + 1, by omega, by go_num, ?_, S4.out, ?_, ?_, M4.out⟩
          · have := O4.out
            rw [← flat_append] at this
            simpa [pvs] using this
          · rw [HT.out, onesOf_snoc, if_pos hpos, ← HZ.out]
            have : (l.take k).length = k := by have := HL.out; simp; omega
            simp [aps, this]
          · rw [HT.out, List.all_append, HFA.out]; simp [fairF]; omega
        case measure => simp [intOf]; omega
      · go_wp2
        go_roundw
        case rel =>
          refine ⟨k + 1, z, m, by omega, by go_num, HO.out, HS.out, ?_, ?_, HBel.out⟩
          · rw [HT.out, onesOf_snoc, if_neg hpos, List.append_nil]; exact HZ.out
          · rw [HT.out, List.all_append, HFA.out]; simp [fairF]; omega
        case measure => simp [intOf]; omega
    · obtain rfl : k = n := by omega
      obtain ⟨wo, hwo⟩ : ∃ wo : World, wo = wr := ⟨_, rfl⟩
      subst hwo
      have HK := Lib.hid (show l.take k = l from List.take_of_length_le (by have := HL.out; omega))
      rw [HK.out] at HZ HFA HM
      obtain ⟨A6, c6, rfl, hc6⟩ := own_slice HO.out
      obtain ⟨ms, rfl⟩ : ∃ ms : Nat, most = ms := ⟨most.toNat, by omega⟩
      have hp1 : (1 : Int) ≤ 2 ^ ms := by have : (0 : Int) < 2 ^ ms := Int.pow_pos (by omega); omega
      have hp2 : (2 : Int) ^ ms ≤ 32768 := by
        have : (2 : Nat) ^ ms ≤ 2 ^ 15 := Nat.pow_le_pow_right (by omega) (by omega)
        have : ((2 ^ ms : Nat) : Int) ≤ 32768 := by omega
        simpa using this
      by_cases hmany : (2 : Int) ^ ms < m
      · have HNo := Lib.hid (lenOk_many (l := l) (most := (ms : Int)) (by
          rw [Int.toNat_natCast, ← HM.out]
          have : ((2 ^ ms : Nat) : Int) < m := by simpa using hmany
          omega))
        go_wp2
        go_ret2
        exact len_no HNo.out HBel.out
      have HYes := Lib.hid (show lengthsOk l (ms : Int) = true by
        have e1 : decide (l.length ≤ 288) = true := by have := HL.out; simp; omega
        have e2 : decide (1 ≤ (ms : Int)) = true := by simp; omega
        have e3 : decide ((ms : Int) ≤ 15) = true := by simp; omega
        have e4 : decide ((onesOf l).length ≤ 2 ^ ms) = true := by
          rw [← HM.out]
          have : ¬ ((2 ^ ms : Nat) : Int) < m := by simpa using hmany
          simp; omega
        unfold lengthsOk
        rw [Int.toNat_natCast, e1, e2, e3, e4, HFA.out]
        rfl)
      by_cases hm0 : m = 0
      · subst hm0
        go_wp2_with (refine mk_ints rfl (.tmp 55) (.tmp 55) rfl w.heap.size k _ _ rfl rfl rfl rfl (by omega) HBel.out.size ?_; intro w9 ho9 hg9; have O9 := Lib.hid ho9; have L9 := Lib.hid (bl_n HBel.out hg9); clear ho9 hg9)
        go_ret2
        refine len_yes HYes.out ?_ L9.out
        rw [Int.toNat_natCast, lens0 HM.out.symm, HL.out, ← outs_nil]
        exact O9.out
      by_cases hm1 : m = 1
      · subst hm1
        have hz1 : z.length = 1 := by have h1 := congrArg List.length HZ.out; rw [← HM.out] at h1; simpa [aps] using h1
        obtain ⟨⟨f1, u1, l1⟩, rfl⟩ : ∃ t, z = [t] := by
          match z, hz1 with
          | [t], _ => exact ⟨t, rfl⟩
        clear hz1
        have hsy := HS.out (f1, u1, l1) (by simp)
        dsimp only at hsy
        have ho1 : onesOf l = [(f1, l1)] := by rw [← HZ.out]; rfl
        obtain ⟨_, hwi, hon, _⟩ := ones_facts l HFA.out
        have hl1 := (hon (f1, l1) (by rw [ho1]; simp)).2
        obtain ⟨s1, rfl⟩ : ∃ s, l1 = [s] := by
          match l1, hl1 with
          | [s], _ => exact ⟨s, rfl⟩
        have hs1 := hwi (f1, [s1]) (by rw [ho1]; simp) s1 (by simp)
        rw [HL.out] at hs1
        obtain ⟨sn, rfl⟩ : ∃ sn : Nat, s1 = sn := ⟨s1.toNat, by omega⟩
        obtain ⟨gv, cv, hv, _, hltv⟩ := hsy.form (by simp)
        subst hv
        have HY := Lib.hid hsy
        have HW1 := Lib.hid ho1
        clear hsy ho1 hwi hon hl1
        obtain ⟨g6, c6', hv6, hg6, hlt6⟩ := HO.out.form (by omega)
        obtain ⟨rfl, rfl⟩ : A6 = some ⟨g6, 0, none⟩ ∧ c6 = c6' := by injection hv6 with a b c; exact ⟨a, c⟩
        clear hv6
        go_wp2_with (first
          | (refine mk_ints rfl (.tmp 55) (.tmp 55) rfl w.heap.size k _ _ rfl rfl rfl rfl (by omega) HBel.out.size ?_; intro w9 ho9 hg9; have O9 := Lib.hid ho9; have G9 := Lib.hid hg9; clear ho9 hg9; have B9 := Lib.hid (show Below wo.heap.size wo w9 from bl_n (Below.refl _ _) G9.out); have q1 := (own_below HO.out B9.out).cellAt 1 (by omega); have q2 := (HY.out.below B9.out).cellAt 0 (by simp); have q3 := O9.out.cellAt sn (by omega); have q4 := O9.out.frozenAt sn; simp [flat, pvs] at q1 q2; rw [List.getElem?_replicate, if_pos (by omega)] at q3)
          | fail)
        go_ret2
        refine len_yes HYes.out ?_ ((bl_n HBel.out G9.out).setCell HBel.out.size _)
        rw [Int.toNat_natCast, lens1 HM.out.symm, HL.out, HW1.out]
        have h1 := (O9.out.stored sn (.int .i64 1)).1
        have h2 := outs_step k [] sn (by omega)
        rw [← outs_nil] at h2
        have e0 : ((cnt [] sn : Nat) : Int) + 1 = 1 := by simp [cnt]
        rw [e0] at h2
        rw [h2] at h1
        simpa [symsOf] using h1
      have hm2 : ¬ ((m : Int) < 2) := by omega
      have hmb : ((m : Int) == 1) = false := by simp; omega
      obtain ⟨g6, c6', hv6, hg6, hlt6⟩ := HO.out.form (by omega)
      obtain ⟨rfl, rfl⟩ : A6 = some ⟨g6, 0, none⟩ ∧ c6 = c6' := by injection hv6 with a b c; exact ⟨a, c⟩
      clear hv6
      go_wp2_with (first
        | (refine mk_ints rfl (.tmp 55) (.tmp 55) rfl w.heap.size k _ _ rfl rfl rfl rfl (by omega) HBel.out.size ?_; intro w9 ho9 hg9; have O9 := Lib.hid ho9; have G9 := Lib.hid hg9; clear ho9 hg9)
        | fail)
      have B9 := Lib.hid (show Below wo.heap.size wo w9 from bl_n (Below.refl _ _) G9.out)
      have hPR : PRw w9 (.slice (some ⟨g6, 0, none⟩) m c6) m z := ⟨⟨own_zero (own_below HO.out B9.out), pos_pvs (fun t ht => ⟨wo, HS.out t ht⟩)⟩, fun t ht => (HS.out t ht).below B9.out⟩
      have HPR := Lib.hid hPR
      clear hPR
      have HFair := Lib.hid (row_fair l HFA.out (by have := HL.out; omega))
      have hfz : Fair (stSort z) := fair_of (aps_sort z) (by rw [HZ.out]; exact HFair.out 0 (by omega))
      have hfz0 : Fair z := fun t ht => hfz t (((stSort_steq z).mem t).1 ht)
      have HFZ0 := Lib.hid hfz0
      have HFZ := Lib.hid hfz
      clear hfz hfz0
      have hNm : 2 * m ≤ N := by
        rcases HN.out with h | h
        · rw [← HM.out] at h; omega
        · omega
      refine (merge_any N HST.out g6 m c6 (pvs z) (.slice none 0 0) 0 [] w9 HPR.out.row ⟨World.ownsRow_nil _ _ _ _, by simp⟩ (by omega) (by omega) hN2 (by rw [List.append_nil]; exact small_of HFZ0.out)).mono ?_
      rintro ev w10 ⟨g10, c10, rfl, hg10, hr10, hb10⟩
      rw [Nat.add_zero]
      rw [Nat.add_zero, List.append_nil, pvs_sort] at hr10
      have H10 := Lib.hid (show PRw w10 (.slice (some ⟨g10, 0, none⟩) m c10) m (stSort z) from ⟨hr10, fun t ht => (HPR.out.sym t (mem_sort ht)).below hb10⟩)
      have L10 := Lib.hid (below_chain (below_chain HBel.out B9.out) hb10)
      have O10 := Lib.hid (own_below O9.out hb10)
      have B10 := Lib.hid hb10
      clear hr10 hb10
      have HNe := Lib.hid (show ∀ t ∈ stSort z, t.2.1.ownBlock ≠ some wo.heap.size from fun t ht he => by
        have := ((HS.out t (mem_sort ht)).lt _ he).2; omega)
      have hw9 : wo.heap.size < w9.heap.size := (O9.out.lt wo.heap.size rfl).2
      go_wp2
      go_loopw [10, 77] (N2 l ms w10 wo.heap.size) (fun _ i _ => ms - 1 - (intOf i).toNat)
      case atStart => exact ⟨0, stSort z, g10, m, c10, by omega, rfl, rfl, H10.out, HNe.out, by rw [aps_sort, HZ.out]; rfl, Below.refl _ _⟩
      case round =>
        obtain ⟨j, zk, g, nk, c, hj, rfl, rfl, hrw, hne, hap, hbel⟩ := hrel
        have HRW := Lib.hid hrw
        have HNE := Lib.hid hne
        have HAP := Lib.hid hap
        have HB2 := Lib.hid hbel
        have hnk : nk ≤ 2 * m ∧ m ≤ nk := by
          have h1 := hrw.len
          have h2 := congrArg List.length hap
          have h3 := rowAt_le (stSort (onesOf l)) j
          rw [stSort_len, ← HM.out] at h3
          simp [aps] at h2; omega
        clear hrw hne hap hbel
        by_cases hjl : j < ms - 1
        · have hjt : (j : Int) < (ms : Int) - 1 := by omega
          have HFk := Lib.hid (fair_of HAP.out (HFair.out j (by omega)))
          go_wp2_with fail
          refine (pairs_any zk g nk c wr HRW.out (by omega) HFk.out).mono ?_
          rintro ev w11 ⟨v11, z', rfl, ho11, hs11, hf11, ha11, hb11⟩
          have O11 := Lib.hid ho11
          have S11 := Lib.hid hs11
          have F11 := Lib.hid hf11
          have A11 := Lib.hid ha11
          have B11 := Lib.hid hb11
          clear ho11 hs11 hf11 ha11 hb11
          have L11 := Lib.hid (below_chain HB2.out B11.out)
          have HR11 := Lib.hid (H10.out.below L11.out)
          have HZL := Lib.hid (show zk.length = nk from HRW.out.len)
          have HFP := Lib.hid (show Fair (stSort z ++ z') from by
            have h1 := HFair.out (j + 1) (by omega)
            have h2 : aps (stSort (stSort z ++ z')) = rowAt (stSort (onesOf l)) (j + 1) := by rw [aps_sort, aps_append, aps_sort, HZ.out, A11.out, HAP.out]; rfl
            have h3 := fair_of h2 h1
            exact fun t ht => h3 t (((stSort_steq _).mem t).1 ht))
          have hsm : ∀ p ∈ pvs (stSort z) ++ pvs z', Small p.1 := by rw [← pvs_append]; exact small_of HFP.out
          have HSM := Lib.hid hsm
          clear hsm
          obtain ⟨A12, c12, rfl, _⟩ := own_slice O11.out
          go_wp2_with fail
          refine (merge_any N HST.out g10 m c10 (pvs (stSort z)) _ (zk.length / 2) (pvs z') w11 HR11.out.row ⟨own_zero O11.out, pos_pvs (fun t ht => ⟨w11, S11.out t ht⟩)⟩ (by omega) (by have := HZL.out; omega) hN2 HSM.out).mono ?_
          rintro ev w12 ⟨g12, c13, rfl, hg12, hr12, hb12⟩
          rw [← pvs_append, pvs_sort] at hr12
          have H12 := Lib.hid (show PRw w12 (.slice (some ⟨g12, 0, none⟩) (m + zk.length / 2) c13) (m + zk.length / 2) (stSort (stSort z ++ z')) from ⟨hr12, fun t ht => by
            rcases List.mem_append.1 (mem_sort ht) with ht | ht
            · exact (HR11.out.sym t ht).below hb12
            · exact (S11.out t ht).below hb12⟩)
          have L12 := Lib.hid (below_chain L11.out hb12)
          clear hr12 hb12
          go_wp2
          go_roundw
          case rel =>
            refine ⟨j + 1, _, g12, _, c13, by omega, by go_num, rfl, H12.out, fun t ht => ?_, ?_, L12.out⟩
            · rcases List.mem_append.1 (mem_sort ht) with ht | ht
              · exact HNe.out t ht
              · intro he
                have h1 := F11.out t ht _ he
                have h2 := HB2.out.size
                have h3 := B10.out.size
                omega
            · rw [aps_sort, aps_append, aps_sort, HZ.out, A11.out, HAP.out]; rfl
          case measure => simp [intOf]; omega
        · obtain rfl : j = ms - 1 := by omega
          have hjt : ¬ (((ms - 1 : Nat) : Int) < (ms : Int) - 1) := by omega
          have hlast : 2 * m - 2 ≤ nk := by
            have h1 := rowAt_last (stSort (onesOf l)) ms (by
              rw [stSort_len, ← HM.out]
              have : ¬ ((2 ^ ms : Nat) : Int) < m := by simpa using hmany
              omega) (ms - 1) (by omega)
            rw [show ms - (ms - 1) = 1 from by omega, stSort_len, ← HM.out, ← HAP.out] at h1
            have h2 := HRW.out.len
            simp [aps] at h1; omega
          have hncap : nk ≤ c := by
            obtain ⟨_, _, h1, h2⟩ := own_slice HRW.out.row.own
            injection h1 with _ _ h3
            omega
          have hcap1 : (2 : Int) * m - 2 ≤ c := by omega
          have hcap2 : 2 * m - 2 ≤ c := by omega
          obtain ⟨wz, hwz⟩ : ∃ wz : World, wz = wr := ⟨_, rfl⟩
          subst hwz
          have OZ := Lib.hid (show wz.ownsRow 0 3 1 (.slice (some ⟨wo.heap.size, 0, none⟩) k k) k (outs k []) by
            have := own_zero (own_below O10.out HB2.out)
            rwa [outs_nil] at this)
          have hgne : g ≠ wo.heap.size := by
            rintro rfl
            rcases own_apart HRW.out.row.own OZ.out (by decide) with h | h
            · simp [Value.ownBlock] at h
            · exact h rfl
          have hgz : g < wz.heap.size := (HRW.out.row.own.lt g rfl).2
          have h9z : wo.heap.size < wz.heap.size := (OZ.out.lt _ rfl).2
          have HWI := Lib.hid (show Within k (aps zk) by
            rw [HAP.out]
            have := within_row (within_sort (ones_facts l HFA.out).2.1) (ms - 1)
            rwa [HL.out] at this)
          have LZ := Lib.hid (below_chain L10.out HB2.out)
          obtain ⟨last, hla⟩ : ∃ last, last = 2 * m - 2 := ⟨_, rfl⟩
          go_wp2
          rw [← hla]
          have HLA := Lib.hid hla
          have hla2 : last ≤ nk := by omega
          clear hla
          go_loopw [91] (N3 k last zk wz wo.heap.size) (fun i _ => last - (intOf i).toNat)
          case atStart => exact ⟨0, by omega, rfl, OZ.out, World.grownBy.refl _ _⟩
          case round =>
            obtain ⟨p, hp, rfl, ho3, hg3⟩ := hrel
            have O3 := Lib.hid ho3
            have G3 := Lib.hid hg3
            clear ho3 hg3
            by_cases hpl : p < last
            · obtain ⟨⟨x, v, syms⟩, ht⟩ : ∃ t, zk[p]? = some t := ⟨_, List.getElem?_eq_getElem (by have := HRW.out.len; omega)⟩
              have hsy := HRW.out.sym _ (List.mem_of_getElem? ht)
              have hnb := HNE.out _ (List.mem_of_getElem? ht)
              have hwi := HWI.out (x, syms) (by simp only [aps, List.mem_map]; exact ⟨_, List.mem_of_getElem? ht, rfl⟩)
              dsimp only at hsy hnb hwi
              obtain ⟨Av, cv, rfl, _⟩ := own_slice hsy
              obtain ⟨q1, q2⟩ := HRW.out.row.at_ (i := p) (p := (x, .slice Av syms.length cv)) (by simp [pvs, ht])
              dsimp only at q1 q2
              have r1 := (World.cell?_of_block (a := ⟨g, p * 2, none⟩) (G3.out.block g hgz (by simpa using hgne))).trans q1
              have r2 := (World.cell?_of_block (a := ⟨g, p * 2 + 1, none⟩) (G3.out.block g hgz (by simpa using hgne))).trans q2
              have HT := Lib.hid ht
              have HSY := Lib.hid hsy
              have HNB := Lib.hid hnb
              have HWS := Lib.hid hwi
              have hsl : syms.length ≤ 50000 := ((HFair.out (ms - 1) (by omega)) (x, syms) (by rw [← HAP.out]; simp only [aps, List.mem_map]; exact ⟨_, List.mem_of_getElem? ht, rfl⟩)).2.2
              clear ht hsy hnb hwi q1 q2
              have hpn : (p : Int) < last := by omega
              go_wp2
              obtain ⟨wy, hwy⟩ : ∃ wy : World, wy = wr := ⟨_, rfl⟩
              subst hwy
              clear r1 r2
              go_loopw [98] (N4 k (symsOf (aps (zk.take p))) syms wz wo.heap.size) (fun i _ => syms.length - (intOf i).toNat)
              case atStart => exact ⟨0, by omega, rfl, by rw [List.take_zero, List.append_nil]; exact O3.out.alloc _, G3.out.trans (World.grownBy_alloc _ _ _)⟩
              case round =>
                obtain ⟨q, hq, rfl, ho4, hg4⟩ := hrel
                have O4 := Lib.hid ho4
                have G4 := Lib.hid hg4
                clear ho4 hg4
                by_cases hql : q < syms.length
                · obtain ⟨gv, cv', hv, _, hgv⟩ := HSY.out.form (by omega)
                  obtain ⟨rfl, rfl⟩ : Av = some ⟨gv, 0, none⟩ ∧ cv = cv' := by injection hv with a b c; exact ⟨a, c⟩
                  clear hv
                  have hs := HWS.out (syms.getD q 0) (by simp [hql])
                  have hcell := HSY.out.cellAt q (by omega)
                  rw [List.getElem?_map, List.getElem?_eq_getElem hql, Option.map_some] at hcell
                  have hgd : syms.getD q 0 = syms[q] := by simp [hql]
                  have HTK := Lib.hid (take_snoc syms q hql)
                  rw [← hgd] at hcell
                  have r1 := (World.cell?_of_block (a := ⟨gv, q, none⟩) (G4.out.block gv hgv (by have := HNB.out; simpa [Value.ownBlock] using this))).trans hcell
                  clear hcell hgd
                  generalize syms.getD q 0 = sv at *
                  obtain ⟨sn, rfl⟩ : ∃ sn : Nat, sv = sn := ⟨sv.toNat, by omega⟩
                  have r2 := O4.out.cellAt sn (by omega)
                  have r3 := O4.out.frozenAt sn
                  rw [outs_at k _ sn (by omega)] at r2
                  have hcb : cnt (symsOf (aps (zk.take p)) ++ syms.take q) sn ≤ 1000000000 := by
                    have h1 := cnt_le (symsOf (aps (zk.take p)) ++ syms.take q) sn
                    have h2 := ssum_take (aps zk) p
                    have h3 := row_ssum l HFA.out (by have := HL.out; omega) (ms - 1) (by omega)
                    rw [← HAP.out] at h3
                    have h4 : aps (zk.take p) = (aps zk).take p := by simp [aps]
                    have h5 := List.length_take_le q syms
                    have h6 : (symsOf (aps (zk.take p)) ++ syms.take q).length ≤ 100000 := by
                      rw [List.length_append, symsOf_len, h4]
                      omega
                    omega
                  have hsk : (sn : Int) < k := by omega
                  generalize hcc : cnt (symsOf (aps (zk.take p)) ++ syms.take q) sn = cc at *
                  have HCC := Lib.hid hcc
                  clear hcc
                  go_wp2
                  go_roundw
                  case rel =>
                    refine ⟨q + 1, by omega, by go_num, ?_, G4.out.trans (O4.out.stored sn _).2⟩
                    have h1 := (O4.out.stored sn (.int .i64 ((cc : Int) + 1))).1
                    rw [← HCC.out, outs_step k _ sn (by omega), List.append_assoc, ← HTK.out] at h1
                    rw [← HCC.out]
                    exact h1
                  case measure => simp [intOf]; omega
                · obtain rfl : q = syms.length := by omega
                  go_wp2
                  go_roundw
                  case rel =>
                    refine ⟨p + 1, by omega, by go_num, ?_, G4.out⟩
                    have h1 := O4.out
                    rw [List.take_length] at h1
                    have h2 : zk.take (p + 1) = zk.take p ++ [(x, .slice Av syms.length cv, syms)] := by
                      rw [List.take_add_one, HT.out]; rfl
                    rw [h2]
                    simpa [aps, symsOf] using h1
                  case measure => simp [intOf]; omega
            · obtain rfl : p = last := by omega
              go_wp2
              go_ret2
              refine len_yes HYes.out ?_ (bl_g LZ.out G3.out HBel.out.size)
              rw [Int.toNat_natCast, lens2 (by rw [← HM.out]; omega), HL.out, ← HM.out, ← HLA.out, ← HAP.out]
              have h1 := O3.out
              have h2 : aps (zk.take p) = (aps zk).take p := by simp [aps]
              rw [h2] at h1
              exact ⟨h1.1, h1.2.imp id (fun ⟨a, b, c, d, _, f⟩ => ⟨a, b, c, d, by injection d with d; injection d with d; injection d with d; rw [← d]; exact HBel.out.size, f⟩)⟩
end Go.Proofs.YtlhaehefhhcgaaaDoor
