/-
  maps: New, Get, Set: walked.
-/
import Derived.Test.YtgjjdfhoakailaaGreatStM1
namespace Go.Proofs.YtgjjdfhoakailaaGreat
open Go.RowKit Go.Maps
set_option linter.unusedVariables false
set_option linter.unusedSimpArgs false

section
variable {P : Program} {w : World} {ops : Array Oper} {rest : List Oper} {o : Oper} {a : Act} {Q : Exit → Act → World → Prop}
theorem wpl_mk (hg : o.guard = none) (t : TypeId) (parts : Array (Nat × Operand)) (ho : o.op = .build t parts) (vals : List (Nat × Value)) (hl : parts.toList.map (fun x => (x.1, a.eval x.2)) = vals) (cs : Array Value) (hf : P.built t vals = some cs)
    (h : wpList P ops Q rest (a.put o.dst (.agg cs)) w) : wpList P ops Q (o :: rest) a w := by
  have hf' : P.built t (parts.map fun (i, x) => (i, a.eval x)).toList = some cs := by
    rw [Array.toList_map]
    rw [← hl] at hf
    exact hf
  refine wpList_build hg t parts ho (by rw [hf']; rfl) ?_
  rw [hf']
  exact h
end
theorem built_zSl : Tryz.prog.built 54 [] = some (slC zSl).toArray := by kernel_rfl
theorem infoSl : (Tryz.prog.info? 54).map (·.size) = some 34 := by kernel_rfl
theorem infoOne : (Tryz.prog.info? 121).map (·.size) = some 17408 := by kernel_rfl
theorem ofP_none {f : MpF} {M : SnM} {snap : Int} (mi : Nat) (h : ofS f M snap = none) : ofP mi M snap = .pointer none := by
  unfold ofS at h
  unfold ofP
  split at h
  · cases h
  · rename_i h0
    rw [if_neg h0]
    cases hq : aget M snap with
    | none => rfl
    | some p => rw [hq] at h; cases h
theorem ofP_some {w : World} {mi bs n : Nat} {f : MpF} {M : SnM} (h : MapsIs w mi bs n f M) {snap : Int} {g : MpF} (hg : ofS f M snap = some g) :
    ∃ b off, ofP mi M snap = .pointer (some ⟨b, off, none⟩) ∧ b < w.heap.size ∧ ∀ u, u < 512 → w.rangeAt b (off + u * 34) (slC (g u)) := by
  unfold ofS at hg
  unfold ofP
  split at hg
  · rename_i h0
    rw [if_pos h0]
    injection hg with hg
    subst hg
    exact ⟨mi, 1, rfl, h.blk.lt, fun u hu => h.blk.part _ _ (by rw [slC_len]; exact mapsC_part n f bs u hu)⟩
  · rename_i h0
    rw [if_neg h0]
    cases hq : aget M snap with
    | none => rw [hq] at hg; cases hg
    | some p =>
      rw [hq] at hg
      injection hg with hg
      subst hg
      have hb := h.each _ (aget_mem hq)
      exact ⟨p.1, 0, rfl, hb.lt, fun u hu => by rw [Nat.zero_add]; exact hb.part _ _ (by rw [slC_len]; exact oneC_part p.2 u hu)⟩
def getS (n : Nat) (f : MpF) (M : SnM) (snap unit : Int) : Option Sl :=
  if 0 ≤ unit ∧ unit < n then match ofS f M snap with
    | some g => if (g unit.toNat).mask = 0 then none else some (g unit.toNat)
    | none => none
  else none
def GetPost (r : Option Sl) (w : World) (e : Ending) (w' : World) : Prop := e = .returned (.tuple #[vSl (r.getD zSl), .bool r.isSome]) ∧ Below w.heap.size w w'
set_option maxHeartbeats 1000000 in
theorem get_any {w : World} {mi bs n : Nat} {f : MpF} {M : SnM} (h : MapsIs w mi bs n f M) (snap unit : Int) (hs : -9223372036854775808 ≤ snap ∧ snap ≤ 9223372036854775807) :
    Calls Tryz.prog 72 #[.pointer (some ⟨mi, 0, none⟩), .int .i64 snap, .int .i64 unit] w (GetPost (getS n f M snap unit) w) := by
  have H := Lib.hid h
  have hn := h.high
  clear h
  generalize hr : getS n f M snap unit = r
  have HR0 := Lib.hid hr
  clear hr
  go_enter Tryz.func72, Tryz.ntmps72
  go_upto_region 1 with ((with_reducible show wpList _ _ _ (_ :: _) _ _); refine wpl_alloc rfl 54 rfl Tryz.zeroValue54 34 rfl ?_; intro w1 cs hk hc hg hz; have K := Lib.hid hk; have C := Lib.hid hc; have G := Lib.hid hg; have Z := Lib.hid hz; clear hk hc hg hz)
  have H1 := Lib.hid (H.out.grown G.out)
  have c0 := H1.out.n_cell
  have L1 := Lib.hid (show Below w.heap.size w w1 from (Below.refl _ _).grown G.out (Nat.le_refl _) (by simp))
  by_cases hu : unit < 0
  · have HR := Lib.hid (show r = none by rw [← HR0.out]; unfold getS; rw [if_neg (by omega)])
    go_wp2_with (first
      | (go_at_call 96; refine (known_any H1.out).mono ?_; rintro e w2 ⟨rfl, rfl⟩)
      | ((with_reducible show wpList _ _ _ (_ :: _) _ _); refine wpl_mk rfl 54 #[] rfl [] rfl _ built_zSl ?_)
      | ((with_reducible show wpList _ _ _ (_ :: _) _ _); refine wpl_over rfl 54 (.tmp 6) (.tmp 24) rfl w.heap.size (slC zSl) rfl rfl _ cs K.out (by rw [slC_len]; exact infoSl) (by rw [slC_len, C.out]) (slC_one _) ?_; intro w2 hk hg hz; have K2 := Lib.hid hk; have L2 := Lib.hid (bl_g L1.out hg (Nat.le_refl _)); clear hk hg hz))
    refine bodyPost_ret (results_blk_tmp rfl _ w.heap.size rfl _ _ K2.out _ Tryz.underlying54 rfl 34 infoSl (by simp [slC_len])) rfl ?_
    rw [HR.out]
    exact ⟨rfl, L2.out⟩
  · by_cases hu2 : (n : Int) ≤ unit
    · have HR := Lib.hid (show r = none by rw [← HR0.out]; unfold getS; rw [if_neg (by omega)])
      go_wp2_with (first
        | (go_at_call 96; refine (known_any H1.out).mono ?_; rintro e w2 ⟨rfl, rfl⟩)
        | ((with_reducible show wpList _ _ _ (_ :: _) _ _); refine wpl_mk rfl 54 #[] rfl [] rfl _ built_zSl ?_)
        | ((with_reducible show wpList _ _ _ (_ :: _) _ _); refine wpl_over rfl 54 (.tmp 6) (.tmp 24) rfl w.heap.size (slC zSl) rfl rfl _ cs K.out (by rw [slC_len]; exact infoSl) (by rw [slC_len, C.out]) (slC_one _) ?_; intro w2 hk hg hz; have K2 := Lib.hid hk; have L2 := Lib.hid (bl_g L1.out hg (Nat.le_refl _)); clear hk hg hz))
      refine bodyPost_ret (results_blk_tmp rfl _ w.heap.size rfl _ _ K2.out _ Tryz.underlying54 rfl 34 infoSl (by simp [slC_len])) rfl ?_
      rw [HR.out]
      exact ⟨rfl, L2.out⟩
    · obtain ⟨u, rfl⟩ : ∃ u : Nat, unit = (u : Int) := ⟨unit.toNat, by omega⟩
      have huN : u < 512 := by omega
      have hltN : ¬ n ≤ u := by omega
      cases hq : ofS f M snap with
      | none =>
        have eP := ofP_none mi hq
        have HR := Lib.hid (show r = none by rw [← HR0.out]; unfold getS; rw [if_pos (by omega), hq])
        go_wp2_with (first
          | (go_at_call 96; refine (known_any H1.out).mono ?_; rintro e w2 ⟨rfl, rfl⟩)
          | (go_at_call 97; refine (of_any H1.out snap hs).mono ?_; rw [eP]; rintro e w2 ⟨rfl, rfl⟩)
          | ((with_reducible show wpList _ _ _ (_ :: _) _ _); refine wpl_mk rfl 54 #[] rfl [] rfl _ built_zSl ?_)
          | ((with_reducible show wpList _ _ _ (_ :: _) _ _); refine wpl_over rfl 54 (.tmp 6) (.tmp 39) rfl w.heap.size (slC zSl) rfl rfl _ cs K.out (by rw [slC_len]; exact infoSl) (by rw [slC_len, C.out]) (slC_one _) ?_; intro w2 hk hg hz; have K2 := Lib.hid hk; have L2 := Lib.hid (bl_g L1.out hg (Nat.le_refl _)); clear hk hg hz))
        refine bodyPost_ret (results_blk_tmp rfl _ w.heap.size rfl _ _ K2.out _ Tryz.underlying54 rfl 34 infoSl (by simp [slC_len])) rfl ?_
        rw [HR.out]
        exact ⟨rfl, L2.out⟩
      | some g =>
        obtain ⟨b, off, eP, hb, hrg⟩ := ofP_some H1.out hq
        have HRg := Lib.hid (hrg u huN)
        clear hrg
        have cm := HRg.out 33 _ (slC_mask (g u))
        by_cases hm : (g u).mask = 0
        · have HR := Lib.hid (show r = none by rw [← HR0.out]; unfold getS; rw [if_pos (by omega), hq]; simp only [Int.toNat_natCast, hm, if_true])
          rw [hm] at cm
          go_wp2_with (first
            | (go_at_call 96; refine (known_any H1.out).mono ?_; rintro e w2 ⟨rfl, rfl⟩)
            | (go_at_call 97; refine (of_any H1.out snap hs).mono ?_; rw [eP]; rintro e w2 ⟨rfl, rfl⟩)
            | ((with_reducible show wpList _ _ _ (_ :: _) _ _); refine wpl_mk rfl 54 #[] rfl [] rfl _ built_zSl ?_)
            | ((with_reducible show wpList _ _ _ (_ :: _) _ _); refine wpl_over rfl 54 (.tmp 6) (.tmp 39) rfl w.heap.size (slC zSl) rfl rfl _ cs K.out (by rw [slC_len]; exact infoSl) (by rw [slC_len, C.out]) (slC_one _) ?_; intro w2 hk hg hz; have K2 := Lib.hid hk; have L2 := Lib.hid (bl_g L1.out hg (Nat.le_refl _)); clear hk hg hz))
          refine bodyPost_ret (results_blk_tmp rfl _ w.heap.size rfl _ _ K2.out _ Tryz.underlying54 rfl 34 infoSl (by simp [slC_len])) rfl ?_
          rw [HR.out]
          exact ⟨rfl, L2.out⟩
        · have HR := Lib.hid (show r = some (g u) by rw [← HR0.out]; unfold getS; rw [if_pos (by omega), hq]; simp only [Int.toNat_natCast, hm, if_false])
          have em : ((g u).mask == 0) = false := beq_eq_false_iff_ne.2 hm
          generalize (g u).mask = mk at cm em
          go_wp2_with (first
            | (go_at_call 96; refine (known_any H1.out).mono ?_; rintro e w2 ⟨rfl, rfl⟩)
            | (go_at_call 97; refine (of_any H1.out snap hs).mono ?_; rw [eP]; rintro e w2 ⟨rfl, rfl⟩)
            | ((with_reducible show wpList _ _ _ (_ :: _) _ _); refine wpList_load_mid rfl 54 (.tmp 43) rfl b (off + u * 34) rfl (slC (g u)) _ HRg.out Tryz.underlying54 rfl (by rw [slC_len]; exact infoSl) ?_)
            | ((with_reducible show wpList _ _ _ (_ :: _) _ _); refine wpl_over rfl 54 (.tmp 6) (.tmp 44) rfl w.heap.size (slC (g u)) rfl rfl _ cs K.out (by rw [slC_len]; exact infoSl) (by rw [slC_len, C.out]) (slC_one _) ?_; intro w2 hk hg hz; have K2 := Lib.hid hk; have L2 := Lib.hid (bl_g L1.out hg (Nat.le_refl _)); clear hk hg hz))
          refine bodyPost_ret (results_blk_tmp rfl _ w.heap.size rfl _ _ K2.out _ Tryz.underlying54 rfl 34 infoSl (by simp [slC_len])) rfl ?_
          rw [HR.out]
          exact ⟨rfl, L2.out⟩
end Go.Proofs.YtgjjdfhoakailaaGreat
