/-
  The document's lightest (peatbankref04): the weights above nought, rising.
-/
import Derived.Test.YtacidmamfkfipaaRefLen
import Derived.Test.YtacidmamfkfipaaKitInts
namespace Go.Proofs.Ytacidmamfkfipaa
open Go.RowKit
set_option linter.unusedVariables false

/-- A row with a place more, at k. -/
def hole (S : List Int) (k : Nat) (y : Int) : List Int := S.take k ++ y :: S.drop k
theorem hole_len {S : List Int} {k : Nat} (h : k ≤ S.length) (y : Int) : (hole S k y).length = S.length + 1 := by simp [hole]; omega
theorem hole_end (S : List Int) (y : Int) : hole S S.length y = S ++ [y] := by simp [hole]
theorem hole_set {S : List Int} {k : Nat} (h : k ≤ S.length) (y x : Int) : (hole S k y).set k x = hole S k x := by
  unfold hole
  rw [List.set_append, if_neg (by simp; omega)]
  simp [Nat.min_eq_left h]
theorem hole_prev {S : List Int} {k : Nat} (h : k < S.length) (y : Int) : (hole S (k + 1) y)[k]? = some (S.getD k 0) := by
  unfold hole
  rw [List.getElem?_append_left (by simp; omega)]
  simp [h]
theorem hole_at {S : List Int} {k : Nat} (h : k ≤ S.length) (y : Int) : (hole S k y)[k]? = some y := by
  unfold hole
  rw [List.getElem?_append_right (by simp; omega)]
  simp [Nat.min_eq_left h]
theorem hole_step {S : List Int} {k : Nat} (h : k < S.length) : hole S (k + 1) (S.getD k 0) = hole S k (S.getD k 0) := by
  unfold hole
  have e1 : S.take (k + 1) = S.take k ++ [S.getD k 0] := take_snoc S k h
  have e2 : S.drop k = S.getD k 0 :: S.drop (k + 1) := by rw [List.drop_eq_getElem_cons h]; simp [h]
  rw [e1, e2]; simp
theorem drop_gt {S : List Int} {k : Nat} {f : Int} (h : k < S.length) (h1 : ∀ z ∈ S.drop (k + 1), f < z) (h2 : f < S.getD k 0) : ∀ z ∈ S.drop k, f < z := by
  have e2 : S.drop k = S.getD k 0 :: S.drop (k + 1) := by rw [List.drop_eq_getElem_cons h]; simp [h]
  rw [e2]
  intro z hz
  rcases List.mem_cons.1 hz with rfl | hz
  · exact h2
  · exact h1 z hz

def LightPost (l : List Int) (w : World) (e : Ending) (w' : World) : Prop :=
  ∃ v, e = .returned v ∧ w'.ownsRow w.heap.size 3 1 v (lightW l).length ((lightW l).map (Value.int .i64)) ∧ Below w.heap.size w w'
def L1 (l : List Int) (n : Nat) (w : World) (v i : Value) (wr : World) : Prop :=
  ∃ k : Nat, k ≤ n ∧ i = .int .i64 k ∧ wr.ownsRow w.heap.size 3 1 v (lightW (l.take k)).length ((lightW (l.take k)).map (Value.int .i64)) ∧ Below w.heap.size w wr
def L2 (S : List Int) (f : Int) (g c : Nat) (w : World) (kv : Value) (wr : World) : Prop :=
  ∃ (k : Nat) (y : Int), k ≤ S.length ∧ kv = .int .i64 k ∧ (∀ z ∈ S.drop k, f < z) ∧ wr.ownsRow w.heap.size 3 1 (.slice (some ⟨g, 0, none⟩) (S.length + 1) c) (S.length + 1) ((hole S k y).map (Value.int .i64)) ∧ Below w.heap.size w wr

set_option maxHeartbeats 1600000 in
theorem light_any (l : List Int) (A : Option Addr) (n cap : Nat) (w : World) (hr : RdI .i64 w A n l) (hn : n ≤ 288) (hf : l.all fairF = true) :
    Calls Try.prog 33 #[.slice A n cap] w (LightPost l w) := by
  have HR := Lib.hid hr
  have HL := Lib.hid hr.1
  have HF := Lib.hid hf
  clear hr hf
  go_enter Try.func33, Try.ntmps33
  go_wp2
  go_loopw [3, 4] (L1 l n w) (fun _ i _ => n - (intOf i).toNat)
  case atStart => exact ⟨0, by omega, rfl, by simpa [lightW, onesOf, stSort, ws] using World.ownsRow_nil _ _ _ _, Below.refl _ _⟩
  case round =>
    obtain ⟨k, hk, rfl, ho, hbel⟩ := hrel
    have HO := Lib.hid ho
    have HBel := Lib.hid hbel
    clear ho hbel
    obtain ⟨wo, hwo⟩ : ∃ wo : World, wo = wr := ⟨_, rfl⟩
    subst hwo
    by_cases hlt : k < n
    · have hltI : (k : Int) < n := by omega
      obtain ⟨b, off, rfl, hblt, hz⟩ := HR.out.cell HBel.out hlt
      have hkl : k < l.length := by have := HL.out; omega
      have HT := Lib.hid (take_snoc l k hkl)
      have hfa := fair_at HF.out hkl
      have hln : (lightW (l.take k)).length ≤ k := by
        rw [lightW_len]
        exact Nat.le_trans (ones_facts _ (by rw [List.all_eq_true]; intro x hx; exact List.all_eq_true.1 HF.out x (List.mem_of_mem_take hx))).2.2.2 (List.length_take_le _ _)
      have HLS := Lib.hid (fun j => light_snoc (l.take k) (l.getD k 0) j)
      have HLP := Lib.hid (light_pass (l.take k) (l.getD k 0))
      have HBd : Hid (∀ z ∈ lightW (l.take k), 0 ≤ z ∧ z ≤ 1048576) := light_bd (by rw [List.all_eq_true]; intro x hx; exact List.all_eq_true.1 HF.out x (List.mem_of_mem_take hx))
      have HZ := Lib.hid hz
      generalize hfe : l.getD k 0 = f at *
      have HFE := Lib.hid hfe
      clear hfe
      generalize lightW (l.take k) = S at *
      have hm : S.length ≤ 288 := by omega
      by_cases h0 : f = 0
      · have d0 : (f == 0) = true := by simpa using h0
        go_wp2
        go_roundw
        case rel => exact ⟨k + 1, by omega, by go_num, by rw [HT.out, HLP.out (by omega)]; exact HO.out, HBel.out⟩
        case measure => simp [intOf]; omega
      · have d0 : (f == 0) = false := by simpa using h0
        obtain ⟨A0, c0, hv0, hc0⟩ := own_slice HO.out
        subst hv0
        go_wp2_with (refine app_src rfl (.tmp 19) (.tmp 20) 22 rfl w.heap.size 3 _ 1 8 Try.underlying22 infoInt rfl (by omega) _ S.length _ rfl (HO.out.alloc _) _ 1 [Value.int .i64 0] rfl (src_one _ _ _) (by simp [Value.oneCell']) (by omega) (by omega) (by have := HBel.out.size; simp; omega) ?_; intro v2 w2 ho2 hg2 hor2; have O2 := Lib.hid ho2; have G2 := Lib.hid hg2; clear ho2 hg2 hor2)
        have L2' := Lib.hid ((HBel.out.alloc HBel.out.size _).grown G2.out (by have := HBel.out.size; simp; omega) (fun k hk => (HO.out.lt k hk).1))
        obtain ⟨g, c, hv, _, hlt2⟩ := O2.out.form (by omega)
        subst hv
        go_loopw [5] (L2 S f g c w) (fun i _ => (intOf i).toNat)
        case atStart => exact ⟨S.length, 0, Nat.le_refl _, rfl, by simp, by rw [hole_end]; simpa using O2.out, L2'.out⟩
        case round =>
          obtain ⟨j, y, hj, rfl, hgt, ho, hbel⟩ := hrel
          have HGt := Lib.hid hgt
          have HO2 := Lib.hid ho
          have HB2 := Lib.hid hbel
          clear hgt ho hbel
          obtain ⟨b2, off2, e2, hblt2, hz2⟩ := HR.out.cell HB2.out hlt
          injection e2 with e2
          injection e2 with e2 e3
          subst e2
          subst e3
          rw [HFE.out] at hz2
          rcases Nat.eq_zero_or_pos j with hj0 | hj0
          · subst hj0
            have q1 := HO2.out.cellAt 0 (by omega)
            have q2 := HO2.out.frozenAt 0
            rw [List.getElem?_map, hole_at hj, Option.map_some] at q1
            go_wp2
            refine wp_region_qs (fun _ w' => True) [(0, some 0), (1, some 0), (2, some 0), (3, some 0), (4, some 0), (5, some 0), (6, some 0), (7, some 0), (8, some 0), (9, some 0), (10, some 0), (11, some 0), (12, some 0), (13, some 0)] (by kernel_rfl) (by kernel_rfl) (by kernel_rfl) (by kernel_rfl) (by kernel_rfl) (fun _ _ _ _ _ h => h) trivial ?_
            simp only [List.map_cons, List.map_nil, List.getD_cons_succ, List.getD_cons_zero]
            (repeat (first | (refine qs_now (v := ?_) (by rfl) ?_ ?_; rotate_left 1; (· (intro w' hS; go_simp; (try (simp only [↓IntWalk.iteOmega]; go_simp)); (try simp (disch := omega) only [IntWalk.i64_in]); try with_reducible rfl)); simp only [Act.put, List.setIfInBounds_toArray, List.set_cons_zero, List.set_cons_succ]) | (refine qs_run (v := ?_) (by rfl) ?_ ?_; rotate_left 1; (· (intro j w' hS; go_simp; (try (simp only [↓IntWalk.iteOmega]; go_simp)); (try simp (disch := omega) only [IntWalk.i64_in]); try with_reducible rfl)); simp only [Act.put, List.setIfInBounds_toArray, List.set_cons_zero, List.set_cons_succ]) | (refine qs_skip (by rfl) ?_; simp only [Act.put, List.setIfInBounds_toArray, List.set_cons_zero, List.set_cons_succ])))
            refine qs_nil ?_
            go_wp2
            go_roundw
            case rel =>
              refine ⟨k + 1, by omega, by go_num, ?_, HB2.out.drew.setCell (by omega) _⟩
              rw [HT.out, HLS.out 0 (by omega) (by omega) HGt.out (.inl rfl), show S.take 0 ++ f :: S.drop 0 = hole S 0 f from rfl, hole_len hj, ← hole_set hj y f, List.map_set]
              exact (World.ownsRow.stored (w := wr.drew) HO2.out 0 (.int .i64 f)).1
            case measure => simp [intOf]; omega
          · obtain ⟨i, rfl⟩ : ∃ i, j = i + 1 := ⟨j - 1, by omega⟩
            have hi : i < S.length := by omega
            have q0 := HO2.out.cellAt i (by omega)
            rw [List.getElem?_map, hole_prev hi, Option.map_some] at q0
            have q1 := HO2.out.cellAt (i + 1) (by omega)
            have q2 := HO2.out.frozenAt (i + 1)
            rw [List.getElem?_map, hole_at hj, Option.map_some] at q1
            have hbd := HBd.out (S.getD i 0) (by simp [hi])
            have HSt := Lib.hid (hole_step hi)
            have HDr := Lib.hid (fun h => drop_gt hi HGt.out h)
            have HSe := Lib.hid (hole_set hj y)
            have HN := Lib.hid (fun h1 h2 => HLS.out (i + 1) h1 hj h2)
            rw [Nat.add_sub_cancel] at HN
            generalize S.getD i 0 = x at *
            by_cases hx : f < x
            · have d1 : decide (f < x) = true := by simpa using hx
              go_wp2
              refine wp_region_qs (fun _ w' => w'.cell? ⟨g, i, none⟩ = some (.int .i64 x) ∧ w'.cell? ⟨b, off + k, none⟩ = some (.int .i64 f)) [(0, some 0), (1, some 0), (2, some 0), (3, some 0), (4, some 0), (5, some 0), (6, some 0), (7, some 0), (8, some 0), (9, some 0), (10, some 0), (11, some 0), (12, some 0), (13, some 0)] (by kernel_rfl) (by kernel_rfl) (by kernel_rfl) (by kernel_rfl) (by kernel_rfl) (fun _ _ _ _ _ h => h) ⟨q0, hz2⟩ ?_
              simp only [List.map_cons, List.map_nil, List.getD_cons_succ, List.getD_cons_zero]
              (repeat (first | (refine qs_now (v := ?_) (by rfl) ?_ ?_; rotate_left 1; (· (intro w' hS; go_simp; (try (simp only [↓IntWalk.iteOmega]; go_simp)); (try simp (disch := omega) only [IntWalk.i64_in]); try with_reducible rfl)); simp only [Act.put, List.setIfInBounds_toArray, List.set_cons_zero, List.set_cons_succ]) | (refine qs_run (v := ?_) (by rfl) ?_ ?_; rotate_left 1; (· (intro j w' hS; go_simp; (try (simp only [↓IntWalk.iteOmega]; go_simp)); (try simp (disch := omega) only [IntWalk.i64_in]); try with_reducible rfl)); simp only [Act.put, List.setIfInBounds_toArray, List.set_cons_zero, List.set_cons_succ]) | (refine qs_skip (by rfl) ?_; simp only [Act.put, List.setIfInBounds_toArray, List.set_cons_zero, List.set_cons_succ])))
              refine qs_nil ?_
              go_wp2
              go_roundw
              case rel =>
                refine ⟨i, x, by omega, by go_num, HDr.out hx, ?_, HB2.out.drew.setCell (by omega) _⟩
                rw [← HSt.out, ← HSe.out x, List.map_set]
                exact (World.ownsRow.stored (w := wr.drew) HO2.out (i + 1) (.int .i64 x)).1
              case measure => simp [intOf]
            · have d1 : decide (f < x) = false := by simpa using hx
              go_wp2
              refine wp_region_qs (fun _ w' => w'.cell? ⟨g, i, none⟩ = some (.int .i64 x) ∧ w'.cell? ⟨b, off + k, none⟩ = some (.int .i64 f)) [(0, some 0), (1, some 0), (2, some 0), (3, some 0), (4, some 0), (5, some 0), (6, some 0), (7, some 0), (8, some 0), (9, some 0), (10, some 0), (11, some 0), (12, some 0), (13, some 0)] (by kernel_rfl) (by kernel_rfl) (by kernel_rfl) (by kernel_rfl) (by kernel_rfl) (fun _ _ _ _ _ h => h) ⟨q0, hz2⟩ ?_
              simp only [List.map_cons, List.map_nil, List.getD_cons_succ, List.getD_cons_zero]
              (repeat (first | (refine qs_now (v := ?_) (by rfl) ?_ ?_; rotate_left 1; (· (intro w' hS; go_simp; (try (simp only [↓IntWalk.iteOmega]; go_simp)); (try simp (disch := omega) only [IntWalk.i64_in]); try with_reducible rfl)); simp only [Act.put, List.setIfInBounds_toArray, List.set_cons_zero, List.set_cons_succ]) | (refine qs_run (v := ?_) (by rfl) ?_ ?_; rotate_left 1; (· (intro j w' hS; go_simp; (try (simp only [↓IntWalk.iteOmega]; go_simp)); (try simp (disch := omega) only [IntWalk.i64_in]); try with_reducible rfl)); simp only [Act.put, List.setIfInBounds_toArray, List.set_cons_zero, List.set_cons_succ]) | (refine qs_skip (by rfl) ?_; simp only [Act.put, List.setIfInBounds_toArray, List.set_cons_zero, List.set_cons_succ])))
              refine qs_nil ?_
              go_wp2
              go_roundw
              case rel =>
                refine ⟨k + 1, by omega, by go_num, ?_, HB2.out.drew.setCell (by omega) _⟩
                rw [HT.out, HN.out (by omega) HGt.out (.inr (by omega)), show S.take (i + 1) ++ f :: S.drop (i + 1) = hole S (i + 1) f from rfl, hole_len hj, ← HSe.out f, List.map_set]
                exact (World.ownsRow.stored (w := wr.drew) HO2.out (i + 1) (.int .i64 f)).1
              case measure => simp [intOf]; omega
    · obtain rfl : k = n := by omega
      have HK := Lib.hid (show l.take k = l from List.take_of_length_le (by have := HL.out; omega))
      rw [HK.out] at HO
      go_wp2
      go_ret
      exact ⟨_, rfl, HO.out, HBel.out⟩
end Go.Proofs.Ytacidmamfkfipaa
