/-
  what this claim needs of: StIL (written by cut.py).
-/
import Derived.Test.YtgjjdfhoakailaaGreatOStIW
import Derived.Test.YtgjjdfhoakailaaGreatOStI1
import Derived.Test.YtgjjdfhoakailaaGreatOStH
namespace Go.Proofs.YtgjjdfhoakailaaGreat
open Go.RowKit Go.Maps Go.Sort Go.Shelf
set_option linter.unusedVariables false
set_option linter.unusedSimpArgs false

theorem StO.lower {w0 w1 w : World} {si xi bx mi bs n : Nat} {E : ExM} {f : MpF} {M : SnM} (h : StO w1 w si xi bx mi bs n E f M) (hb : Below w0.heap.size w0 w1) : StO w0 w si xi bx mi bs n E f M :=
  ⟨h.st, h.inv, below_chain hb h.low, by have := h.lo; have := hb.size; omega⟩
theorem lent_src {w : World} {base g c : Nat} {l : List It} (h : w.ownsRow base 56 73 (.slice (some ⟨g, 0, none⟩) (l.length + 12) c) (l.length + 12) ((l ++ imMs 1 12).flatMap itC)) : Src w 73 (.slice (some ⟨g, 0, none⟩) l.length c) l.length (itsC l) := by
  rw [List.flatMap_append] at h
  exact src_pre (Src.of_own h) (flat_len itC_len l)
def OfBoth (u : Int) (l : List It) (r : Int) : Prop :=
  (∀ (W : World) (B : Option Addr) (d : Nat), Src W 73 (.slice B l.length d) l.length (itsC l) → Calls Tryz.prog 31 #[.int .i64 u, .slice B l.length d] W (OfNot W r)) ∧
  (∀ (W : World) (B : Option Addr) (d : Nat), Src W 73 (.slice B l.length d) l.length (itsC l) → Calls Tryz.prog 12 #[.int .i64 u, .slice B l.length d] W (OfNot W r))
theorem of_neither {u : Int} {l : List It} (hb : ∀ i ∈ l, ItB i) (hn : l.length ≤ 1000000) (h : ¬ ((1 ≤ u ∧ u ≤ 512) ∧ makesB u l = true)) : ∃ r : Int, (r = 2 ∨ r = 4) ∧ OfBoth u l r := by
  by_cases hu : 1 ≤ u ∧ u ≤ 512
  · have hm : makesB u l = false := by
      cases hm : makesB u l with
      | false => rfl
      | true => exact absurd ⟨hu, hm⟩ h
    refine ⟨4, .inr rfl, fun W B d hs => ?_, fun W B d hs => ?_⟩
    · obtain ⟨k, rfl⟩ : ∃ k : Nat, u = (k : Int) := ⟨u.toNat, by omega⟩
      exact (stOf_any hs rfl hn hb k (by omega)).mono (fun e w' hh => hh.1 hm)
    · refine (rOf_any hs rfl hn u hb).mono ?_
      rintro e w' ⟨h1 | ⟨_, _, he⟩ | h1, hb⟩
      · omega
      · exact ⟨he, hb⟩
      · rw [hm] at h1
        cases h1.2.1
  · refine ⟨2, .inl rfl, fun W B d hs => stOf_bad u (by omega), fun W B d hs => ?_⟩
    refine (rOf_any hs rfl hn u hb).mono ?_
    rintro e w' ⟨h1 | h1 | h1, hb⟩
    · exact ⟨h1.2, hb⟩
    · exact absurd h1.1 hu
    · exact absurd h1.1 hu
theorem of_rboth {W : World} {B : Option Addr} {d k : Nat} {l : List It} (hb : ∀ i ∈ l, ItB i) (hn : l.length ≤ 1000000) (hu : 1 ≤ k ∧ k ≤ 512) (hm : makesB (k : Int) l = true) (hs : Src W 73 (.slice B l.length d) l.length (itsC l)) :
    Calls Tryz.prog 12 #[.int .i64 (k : Int), .slice B l.length d] W fun e w' => ∃ xs A c, e = .returned (.tuple #[.pointer (some ⟨xs, 0, none⟩), .int .i64 0]) ∧ RfIs w' W.heap.size xs k l.length c A l ∧ Below W.heap.size W w' := by
  refine (rOf_any hs rfl hn (k : Int) hb).mono ?_
  rintro e w' ⟨h1 | h1 | ⟨_, _, xs, A, c, he, hR, _⟩, hb⟩
  · omega
  · rw [hm] at h1
    cases h1.2.1
  · exact ⟨xs, A, c, he, hR, hb⟩
set_option maxRecDepth 100000 in
set_option maxHeartbeats 2000000 in
theorem of_law {w : World} {A : Option Addr} {n c : Nat} {l : List It} (u : Int) (h : ItsAt w A n c l) :
    Calls Tryz.prog 7 #[.int .i64 u, .slice A n c] w fun e w' => e = .returned (.bool true) ∧ Below w.heap.size w w' := by
  obtain ⟨hs, rfl, hb, h63⟩ := h
  have H := Lib.hid hs
  have HB := Lib.hid hb
  clear hs hb
  by_cases hn : (200 : Int) < l.length
  · go_enter Tryz.func7, Tryz.ntmps7
    go_wp2_with (go_at_call 9; refine (awake_any w).mono ?_; rintro e w1 ⟨rfl, hb⟩; have L1 := Lib.hid hb; clear hb)
    go_ret
    exact ⟨rfl, L1.out⟩
  · have HN := Lib.hid (show l.length ≤ 200 by omega)
    by_cases hg : (1 ≤ u ∧ u ≤ 512) ∧ makesB u l = true
    · obtain ⟨k, rfl⟩ : ∃ k : Nat, u = (k : Int) := ⟨u.toNat, by omega⟩
      have HU := Lib.hid (show 1 ≤ k ∧ k ≤ 512 by omega)
      have HM := Lib.hid hg.2
      clear hg
      go_enter Tryz.func7, Tryz.ntmps7
      go_upto_region 8 with (first
        | (go_at_call 12; refine (of_rboth HB.out (by have := HN.out; omega) HU.out HM.out (H.out.below S3.out.low)).mono ?_; rintro e w4 ⟨xs, A4, c4, rfl, hR, hb⟩; have R4 := Lib.hid hR; have L4 := Lib.hid hb; clear hR hb)
        | (go_at_call 31; refine (stOf_any (lent_src O2.out) rfl (by have := HN.out; omega) HB.out k HU.out).mono ?_; rintro e w3 ⟨_, h2⟩; obtain ⟨si, xi, bx, mi, bs, E, f, M, rfl, hst, hp⟩ := h2 HM.out; have O3 := Lib.hid (own_belowR O2.out hst.low); have S3 := Lib.hid (hst.lower L2.out); have HP := Lib.hid hp; clear h2 hst hp)
        | (go_at_call 30; refine (imLent_any (H.out.below L1.out) rfl (by have := HN.out; omega)).mono ?_; rintro e w2 ⟨g2, c2, rfl, hc2, ho, hb⟩; have HC2 := Lib.hid hc2; have O2 := Lib.hid ho; have L2 := Lib.hid (below_chain L1.out hb); clear hc2 ho hb)
        | (go_at_call 9; refine (awake_any w).mono ?_; rintro e w1 ⟨rfl, hb⟩; have L1 := Lib.hid hb; clear hb))
      have S4 := Lib.hid (S3.out.below L4.out)
      go_upto_region 10 with (go_at_call 32; refine (imKept_any (H.out.below S4.out.low) rfl (own_belowR O3.out L4.out) HC2.out HB.out (by have := HN.out; omega)).mono ?_; rintro e w5 ⟨rfl, hb⟩; have S5 := Lib.hid (S4.out.below hb); have R5 := Lib.hid (R4.out.below hb); clear hb)
      obtain ⟨I, hI⟩ : ∃ I, I = stItems k E f M := ⟨_, rfl⟩
      have HI := Lib.hid hI
      have HIB := Lib.hid (show ∀ i ∈ I, ItB i by rw [hI]; exact stItems_B HU.out.2 S5.out.inv)
      have HIp := Lib.hid (show l.Perm I by rw [hI]; exact HP.out)
      have HIl := Lib.hid (show I.length ≤ 200 by rw [← HIp.out.length_eq]; exact HN.out)
      have hE : E.length ≤ 200 := by
        have h1 := HIl.out
        rw [hI] at h1
        unfold stItems at h1
        rw [List.length_append, xItems_len] at h1
        omega
      have HIs := Lib.hid (show SortedI I by rw [hI]; exact st_sorted S5.out.inv.uniq S5.out.inv.uniqM S5.out.inv.ids)
      have HIk := Lib.hid (show ∀ x ∈ I, x.kind = 1 ∨ x.kind = 2 ∨ x.kind = 3 by rw [hI]; exact fun x hx => st_kinds S5.out.inv.uniqM S5.out.inv.ids hx)
      have HIt := Lib.hid (show ∀ W, StIs W si xi bx mi bs k E f M → Calls Tryz.prog 19 #[.pointer (some ⟨si, 0, none⟩)] W (MItPost I W) from fun W hW => by rw [hI]; exact st_items hW (by omega) S5.out.inv.idsOk)
      have HCk := Lib.hid (show ∀ W, StIs W si xi bx mi bs k E f M → Calls Tryz.prog 21 #[.pointer (some ⟨si, 0, none⟩)] W fun e w' => e = .returned (.int .i64 0) ∧ Below W.heap.size W w' from fun W hW => by
        have h1 := check_any hW (by omega) S5.out.inv.idsOk (by rw [← hI]; exact HIB.out) (by rw [← hI]; have := HIl.out; omega)
        rw [inv_makes HU.out.2 S5.out.inv, if_pos rfl] at h1
        exact h1)
      clear hI hE HP S3 S4 R4 L4 O3 O2 HC2
      go_wp2_with (first
        | (go_at_call 19; refine (HIt.out _ S5.out.st).mono ?_; rintro e w12 ⟨v12, rfl, ho, hb⟩; obtain ⟨A12, c12, rfl, _⟩ := own_slice ho; have O12 := Lib.hid ho; have S12 := Lib.hid (S5.out.below hb); have R12 := Lib.hid (R5.out.below hb); clear ho hb)
        | (go_at_call 20; refine (rItems_any R12.out (by have := HN.out; omega) HIp.out HIs.out HIk.out).mono ?_; rintro e w13 ⟨v13, rfl, ho, hb⟩; obtain ⟨A13, c13, rfl, _⟩ := own_slice ho; have O13 := Lib.hid ho; have O12' := Lib.hid (own_belowR O12.out hb); have S13 := Lib.hid (S12.out.below hb); clear ho hb)
        | (go_at_call 18; refine (same_its (Src.of_own O12'.out) rfl (Src.of_own O13.out) rfl HIB.out HIB.out (by have := HIl.out; omega) (by have := HIl.out; omega)).mono ?_; rintro e w14 ⟨rfl, hb⟩; rewrite [decide_eq_true (show I = I from rfl)]; have S14 := Lib.hid (S13.out.below hb); clear hb)
        | (go_at_call 21; refine (HCk.out _ S14.out.st).mono ?_; rintro e w15 ⟨rfl, hb⟩; have S15 := Lib.hid (S14.out.below hb); clear hb))
      go_ret
      exact ⟨rfl, S15.out.low⟩
    · obtain ⟨r, hr, hS, hR⟩ := of_neither HB.out (by have := HN.out; omega) hg
      have HSt := Lib.hid hS
      have HRf := Lib.hid hR
      have e1 : (r != r) = false := bne_self_eq_false r
      have e2 : (r == 0) = false := beq_eq_false_iff_ne.2 (by omega)
      have e3 : (r != 0) = true := bne_iff_ne.2 (by omega)
      clear hg hr hS hR
      go_enter Tryz.func7, Tryz.ntmps7
      go_wp2_with (first
        | (go_at_call 32; refine (imKept_any (H.out.below (below_chain L3.out L4.out)) rfl (own_belowR O3.out L4.out) HC2.out HB.out (by have := HN.out; omega)).mono ?_; rintro e w5 ⟨rfl, hb⟩; have L5 := Lib.hid (below_chain (below_chain L3.out L4.out) hb); clear hb)
        | (go_at_call 12; refine (HRf.out _ _ _ (H.out.below L3.out)).mono ?_; rintro e w4 ⟨rfl, hb⟩; have L4 := Lib.hid hb; clear hb)
        | (go_at_call 31; refine (HSt.out _ _ _ (lent_src O2.out)).mono ?_; rintro e w3 ⟨rfl, hb⟩; have O3 := Lib.hid (own_belowR O2.out hb); have L3 := Lib.hid (below_chain L2.out hb); clear hb)
        | (go_at_call 30; refine (imLent_any (H.out.below L1.out) rfl (by have := HN.out; omega)).mono ?_; rintro e w2 ⟨g2, c2, rfl, hc2, ho, hb⟩; have HC2 := Lib.hid hc2; have O2 := Lib.hid ho; have L2 := Lib.hid (below_chain L1.out hb); clear hc2 ho hb)
        | (go_at_call 9; refine (awake_any w).mono ?_; rintro e w1 ⟨rfl, hb⟩; have L1 := Lib.hid hb; clear hb))
      go_ret
      exact ⟨rfl, L5.out⟩
end Go.Proofs.YtgjjdfhoakailaaGreat
