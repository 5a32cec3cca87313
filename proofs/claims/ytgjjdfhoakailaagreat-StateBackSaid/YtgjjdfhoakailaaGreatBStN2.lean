/-
  what this claim needs of: StN2 (written by cut.py).
-/
import Derived.Test.YtgjjdfhoakailaaGreatBStArg
import Derived.Test.YtgjjdfhoakailaaGreatBStC
namespace Go.Proofs.YtgjjdfhoakailaaGreat
open Go.RowKit Go.Maps Go.Sort Go.Shelf
set_option linter.unusedVariables false
set_option linter.unusedSimpArgs false

def lightE (e : OpE) : Bool := decide (e.o.news.length + e.o.puts.length ≤ 60)
def lightB (l : List OpE) : Bool := l.all lightE && decide (l.length ≤ 40)
theorem OpsAt.below {w w' : World} {A : Option Addr} {n c : Nat} {l : List OpE} (h : OpsAt w A n c l) (hb : Below w.heap.size w w') : OpsAt w' A n c l :=
  ⟨h.1.below hb, h.2.1, fun e he => ⟨(h.2.2.1 e he).1.below hb, (h.2.2.1 e he).2⟩, h.2.2.2⟩
theorem ops_all {l : List OpE} {p : OpE → Bool} {i : Nat} (hi : i < l.length) (h : (l.take i).all p = true) (hx : p (l[i]'hi) = true) : (l.take (i + 1)).all p = true := by
  rw [List.take_succ_eq_append_getElem hi, List.all_append, h]
  simp [hx]
theorem ops_bad {l : List OpE} {p : OpE → Bool} {i : Nat} (hi : i < l.length) (hx : p (l[i]'hi) = false) : l.all p = false := by
  rw [← Bool.not_eq_true, List.all_eq_true]
  intro h
  rw [h _ (List.getElem_mem hi)] at hx
  cases hx
set_option maxRecDepth 100000 in
set_option maxHeartbeats 1000000 in
theorem light_any {w : World} {A : Option Addr} {n c : Nat} {l : List OpE} (h : OpsAt w A n c l) : Calls Tryz.prog 10 #[.slice A n c] w fun e w' => e = .returned (.bool (lightB l)) ∧ Below w.heap.size w w' := by
  have H := Lib.hid h
  have HL := Lib.hid h.2.1
  have hn := h.2.2.2
  clear h
  go_enter Tryz.func10, Tryz.ntmps10
  go_upto_region 2 with fail
  go_loopg [3] n (fun k iv wr => ∃ i : Nat, iv = .int .i64 (i : Int) ∧ i ≤ n ∧ i + k ≤ n ∧ n ≤ i + k ∧ (l.take i).all lightE = true ∧ Below w.heap.size w wr)
  case atStart => exact ⟨0, rfl, by omega, by omega, by omega, by simp, Below.refl _ _⟩
  case round =>
    obtain ⟨i, rfl, i1, i2, i3, ha, hb⟩ := hrel
    have HA := Lib.hid ha
    have LB := Lib.hid hb
    clear ha hb
    by_cases hi : i < n
    · have hiI : (i : Int) < (n : Int) := by omega
      have hil : i < l.length := by rw [HL.out]; exact hi
      obtain ⟨b, off, hA, hr⟩ := src_part opEC_len (H.out.1.below LB.out) HL.out hil
      have hok := (H.out.2.2.1 _ (List.getElem_mem hil)).2
      have HTk := Lib.hid (fun h => ops_all (p := lightE) hil HA.out h)
      have HBd := Lib.hid (fun h => ops_bad (p := lightE) hil h)
      generalize l[i] = x at hr hok HTk HBd
      have hx1 := hok.2.2.2.2.2.2.1
      have hx2 := hok.2.2.2.2.2.2.2
      subst hA
      have k4 := hr 4 (.slice x.A x.o.news.length x.c) rfl
      have k5 := hr 5 (.slice x.B x.o.puts.length x.d) rfl
      have HE := Lib.hid (show lightE x = decide (x.o.news.length + x.o.puts.length ≤ 60) from rfl)
      clear hr hok
      generalize x.o.news.length = p at *
      generalize x.o.puts.length = q at *
      go_upto_region 4 with fail
      refine wp_region_qs (fun _ w' => w'.cell? ⟨b, off + i * 6 + 4, none⟩ = some (.slice x.A p x.c) ∧ w'.cell? ⟨b, off + i * 6 + 5, none⟩ = some (.slice x.B q x.d)) [(0, some 0), (1, some 0), (2, some 0), (3, some 0), (4, some 0), (5, some 0), (6, some 0), (7, some 0), (8, some 0), (9, some 0), (10, some 0), (11, some 0), (12, some 0), (13, some 0)] (by kernel_rfl) (by kernel_rfl) (by kernel_rfl) (by kernel_rfl) (by kernel_rfl) (fun _ _ _ _ _ h => h) ⟨k4, k5⟩ ?_
      simp only [List.map_cons, List.map_nil, List.getD_cons_succ, List.getD_cons_zero]
      (repeat (first | (refine qs_now (v := ?_) (by rfl) ?_ ?_; rotate_left 1; (· (intro w' hS; go_simp; (try (simp only [↓IntWalk.iteOmega]; go_simp)); (try simp (disch := omega) only [IntWalk.i64_in]); try with_reducible rfl)); simp only [Act.put, List.setIfInBounds_toArray, List.set_cons_zero, List.set_cons_succ]) | (refine qs_run (v := ?_) (by rfl) ?_ ?_; rotate_left 1; (· (intro j w' hS; go_simp; (try (simp only [↓IntWalk.iteOmega]; go_simp)); (try simp (disch := omega) only [IntWalk.i64_in]); try with_reducible rfl)); simp only [Act.put, List.setIfInBounds_toArray, List.set_cons_zero, List.set_cons_succ]) | (refine qs_mid (v := ?_) (by rfl) ?_ ?_; rotate_left 1; (· (intro j w' hj1 hj2 hS; go_simp; (try (simp only [↓IntWalk.iteOmega]; go_simp)); (try simp (disch := omega) only [IntWalk.i64_in]); try with_reducible rfl)); simp only [Act.put, List.setIfInBounds_toArray, List.set_cons_zero, List.set_cons_succ]) | (refine qs_skip (by rfl) ?_; simp only [Act.put, List.setIfInBounds_toArray, List.set_cons_zero, List.set_cons_succ])))
      refine qs_nil ?_
      by_cases hs : p + q ≤ 60
      · have hsI : ¬ 60 < (p : Int) + (q : Int) := by omega
        go_wp2_with fail
        go_roundg (gk - 1)
        case measure => omega
        case rel => exact ⟨i + 1, by congr 1, by omega, by omega, by omega, HTk.out (by rw [HE.out]; exact decide_eq_true hs), LB.out.drew⟩
      · have hsI : 60 < (p : Int) + (q : Int) := by omega
        have HF := Lib.hid (HBd.out (by rw [HE.out]; exact decide_eq_false hs))
        go_wp2_with fail
        go_ret
        refine ⟨?_, LB.out.drew⟩
        unfold lightB
        rw [HF.out]
        rfl
    · have hiI : ¬ (i : Int) < (n : Int) := by omega
      have HF := Lib.hid (show lightB l = decide (n ≤ 40) by
        have := HA.out
        rw [List.take_of_length_le (by rw [HL.out]; omega)] at this
        unfold lightB
        rw [this, HL.out]
        rfl)
      go_wp2_with fail
      go_ret
      refine ⟨?_, LB.out⟩
      have e : decide ((n : Int) ≤ 40) = decide (n ≤ 40) := by rw [decide_eq_decide]; omega
      rw [HF.out, ← e]
      rfl
end Go.Proofs.YtgjjdfhoakailaaGreat
