/-
  ref25: write: walked.
  ref25: Right: walked.
-/
import Derived.Test.YtgjjdfhoakailaaGreatStL
import Derived.Test.YtgjjdfhoakailaaGreatStO3
namespace Go.Proofs.YtgjjdfhoakailaaGreat
open Go.RowKit Go.Maps Go.Sort Go.Shelf
set_option linter.unusedVariables false
set_option linter.unusedSimpArgs false

theorem puB_is (p : Pu) (least : Int) : puB p least = (decide (least ≤ p.unit) && decide (p.unit ≤ 511) && sliceB p.sl) := by
  unfold puB sliceB inB
  rw [Bool.eq_iff_iff]
  simp only [Bool.and_eq_true, decide_eq_true_eq]
  omega
theorem putsB_drop {l : List Pu} {i : Nat} (hi : i < l.length) (least : Int) : putsB (l.drop i) least = (puB l[i] least && putsB (l.drop (i + 1)) (l[i].unit + 1)) := by
  rw [List.drop_eq_getElem_cons hi]
  rfl
def Wn25 (w : World) (o : OpV) (k : Nat) (iv : Value) (wr : World) : Prop :=
  ∃ i : Nat, iv = .int .i64 (i : Int) ∧ i ≤ o.news.length ∧ i + k ≤ o.news.length ∧ o.news.length ≤ i + k ∧ newsB (o.news.take i) = true ∧ Below w.heap.size w wr
def Wp25 (w : World) (o : OpV) (k : Nat) (lv iv : Value) (wr : World) : Prop :=
  ∃ (i : Nat) (last : Int), iv = .int .i64 (i : Int) ∧ lv = .int .i64 last ∧ -1 ≤ last ∧ last ≤ 511 ∧ i ≤ o.puts.length ∧ i + k ≤ o.puts.length ∧ o.puts.length ≤ i + k ∧ putsB o.puts 0 = putsB (o.puts.drop i) (last + 1) ∧ Below w.heap.size w wr
theorem not_right_news {o : OpV} (h : newsB o.news = false) : writeB o = false := by unfold writeB; rw [h]; rfl
theorem not_right_puts {o : OpV} (h : putsB o.puts 0 = false) : writeB o = false := by unfold writeB; rw [h]; simp
theorem newsB_take_last {l : List Fr} {j : Nat} (hj : j < l.length) (h : newsB (l.take j) = true) (hf : frB l[j] = true) (hk : (l.take j).any (fun q => decide (q.key = l[j].key)) = false) : newsB (l.take (j + 1)) = true := by
  rw [newsB_take hj h, hf, Bool.true_and]
  refine decide_eq_true (fun hm => ?_)
  obtain ⟨q, hq, e⟩ := List.mem_map.1 hm
  have := List.any_eq_false.1 hk q hq
  exact this (decide_eq_true e)
theorem newsB_bad_fr {l : List Fr} {j : Nat} (hj : j < l.length) (h : frB l[j] = false) : newsB l = false := by
  cases hn : newsB l with
  | false => rfl
  | true =>
    unfold newsB at hn
    rw [Bool.and_eq_true] at hn
    rw [List.all_eq_true.1 hn.1 _ (List.getElem_mem hj)] at h
    cases h
theorem newsB_bad_key {l : List Fr} {j k : Nat} (hk : k < j) (hj : j < l.length) (h : l[k].key = l[j].key) : newsB l = false := by
  cases hn : newsB l with
  | false => rfl
  | true =>
    unfold newsB at hn
    rw [Bool.and_eq_true] at hn
    have h2 := List.pairwise_map.1 (of_decide_eq_true hn.2)
    exact absurd h (List.pairwise_iff_getElem.1 h2 k j (by omega) hj hk)
set_option maxRecDepth 100000 in
set_option maxHeartbeats 4000000 in
theorem write25 {w : World} {o : OpV} {A : Option Addr} {c : Nat} {B : Option Addr} {d : Nat} (h : OpAt w o A c B d) (hn : o.news.length ≤ 100000000) (hm : o.puts.length ≤ 100000000) :
    Calls Tryz.prog 98 #[.agg (opC o A c B d).toArray] w fun e w' => e = .returned (.bool (writeB o)) ∧ Below w.heap.size w w' := by
  have H := Lib.hid h
  clear h
  by_cases hn18 : o.news.length ≤ 18
  · by_cases hm18 : o.puts.length ≤ 18
    · have hI1 : ¬ 18 < (o.news.length : Int) := by omega
      have hI2 : ¬ 18 < (o.puts.length : Int) := by omega
      have HW := Lib.hid (show writeB o = (newsB o.news && putsB o.puts 0) by unfold writeB; rw [decide_eq_true hn18, decide_eq_true hm18]; simp)
      go_enter Tryz.func98, Tryz.ntmps98
      go_upto_region 1 with (first
        | ((with_reducible show wpList _ _ _ (_ :: _) _ _); refine wpl_box rfl 35 (.tmp 0) (by rfl) (opC o A c B d).toArray (by rfl) ?_; intro w1 hk hg hz; have K1 := Lib.hid hk; have L1 := Lib.hid (bl_n (Below.refl _ w) hg); clear hk hg hz; simp only [Act.put, List.setIfInBounds_toArray, List.set_cons_zero, List.set_cons_succ]))
      have c4 := K1.out.cell (i := 4) (v := .slice A o.news.length c) rfl
      have c5 := K1.out.cell (i := 5) (v := .slice B o.puts.length d) rfl
      go_upto_region 4 with fail
      clear hI1 hI2 c4 c5
      go_loopg [3] o.news.length (fun k iv wr => Wn25 w1 o k iv wr)
      case atStart => exact ⟨0, rfl, by omega, by omega, by omega, rfl, Below.refl _ _⟩
      case round =>
        obtain ⟨i, rfl, i1, i2, i3, ha, hb⟩ := hrel
        have HA := Lib.hid ha
        have LB := Lib.hid hb
        obtain ⟨g0, hg0⟩ : ∃ g, g = gk := ⟨_, rfl⟩
        have HG := Lib.hid hg0
        clear ha hb hg0
        have Kr := Lib.hid (K1.out.below LB.out K1.out.lt)
        have c4 := Kr.out.cell (i := 4) (v := .slice A o.news.length c) rfl
        by_cases hi : i < o.news.length
        · have hiI : (i : Int) < (o.news.length : Int) := by omega
          have hs := (H.out.news.below (below_chain L1.out LB.out))
          obtain ⟨b, off, hA, hr⟩ := src_part frC_len hs rfl hi
          have HFb := Lib.hid (fun h => newsB_bad_fr hi h)
          have HKb := Lib.hid (fun k hk h => newsB_bad_key (k := k) hk hi h)
          have HTl := Lib.hid (fun h1 h2 => newsB_take_last hi HA.out h1 h2)
          obtain ⟨x, hx⟩ : ∃ x, x = o.news[i] := ⟨_, rfl⟩
          rw [← hx] at hr HFb HTl
          have HX := Lib.hid hx
          clear hx
          subst hA
          have Hs := Lib.hid hs
          have RP := Lib.hid (rng_sub hr 32 (plC x.pl) (frC_pl x))
          clear hr hs
          obtain ⟨fb, hfb⟩ : ∃ q, q = frB x := ⟨_, rfl⟩
          have HFq := Lib.hid (show placeB x.pl false = fb from hfb.symm)
          rw [← hfb] at HFb HTl
          clear hfb
          cases fb
          case false =>
            have HF := Lib.hid (not_right_news (HFb.out rfl))
            clear HFb HKb HTl
            go_wp2_with (first
              | ((with_reducible show wpList _ _ _ (_ :: _) _ _); refine wpList_load_mid rfl 52 (.tmp 28) (by rfl) b (off + i * 36 + 32) (by rfl) (plC x.pl) _ RP.out Tryz.underlying52 rfl (plC_infoB _) ?_; simp only [Act.put, List.setIfInBounds_toArray, List.set_cons_zero, List.set_cons_succ])
              | (go_at_call 112; refine (place14 x.pl false).mono ?_; rintro e w4 ⟨rfl, hb⟩; rewrite [HFq.out]; have L4 := Lib.hid (below_chain LB.out hb); clear hb))
            go_ret
            exact ⟨by rw [HF.out]; rfl, below_chain L1.out L4.out⟩
          case true =>
            go_upto_region 9 with (first
              | ((with_reducible show wpList _ _ _ (_ :: _) _ _); refine wpList_load_mid rfl 52 (.tmp 28) (by rfl) b (off + i * 36 + 32) (by rfl) (plC x.pl) _ RP.out Tryz.underlying52 rfl (plC_infoB _) ?_; simp only [Act.put, List.setIfInBounds_toArray, List.set_cons_zero, List.set_cons_succ])
              | (go_at_call 112; refine (place14 x.pl false).mono ?_; rintro e w4 ⟨rfl, hb⟩; rewrite [HFq.out]; have L4 := Lib.hid (below_chain LB.out hb); clear hb))
            clear c4 Kr
            go_loopg [4] i (fun kk kv wk => ∃ k : Nat, kv = .int .i64 (k : Int) ∧ k ≤ i ∧ k + kk ≤ i ∧ i ≤ k + kk ∧ (o.news.take k).any (fun q => decide (q.key = x.key)) = false ∧ Below w1.heap.size w1 wk)
            case atStart => exact ⟨0, rfl, by omega, by omega, by omega, by simp, L4.out⟩
            case round =>
              obtain ⟨k, rfl, k1, k2, k3, hq, hb⟩ := hrel
              have HQ := Lib.hid hq
              have LK := Lib.hid hb
              clear hq hb L4
              have c4 := (K1.out.below LK.out K1.out.lt).cell (i := 4) (v := .slice (some ⟨b, off, none⟩) o.news.length c) rfl
              by_cases hk : k < i
              · have hkI : (k : Int) < (i : Int) := by omega
                have hkn : k < o.news.length := by omega
                have hknI : (k : Int) < (o.news.length : Int) := by omega
                have hs2 := H.out.news.below (below_chain L1.out LK.out)
                obtain ⟨b2, off2, hA2, hr2⟩ := src_part frC_len hs2 rfl hkn
                obtain ⟨b3, off3, hA3, hr3⟩ := src_part frC_len hs2 rfl hi
                injection hA2 with hA2
                injection hA2 with e1 e2
                injection hA3 with hA3
                injection hA3 with e3 e4
                subst e1 e2 e3 e4
                rw [← HX.out] at hr3
                have HAn := Lib.hid (fun h => any_next (p := fun q : Fr => decide (q.key = x.key)) hkn HQ.out h)
                have HKk := Lib.hid (show o.news[k].key = x.key → newsB o.news = false from fun h => HKb.out k hk (by rw [h, HX.out]))
                generalize o.news[k] = y at hr2 HAn HKk
                have RY := Lib.hid (rng_sub hr2 0 (keyL y.key) (frC_key y))
                have RX := Lib.hid (rng_sub hr3 0 (keyL x.key) (frC_key x))
                clear hr2 hr3 hs2
                have fq := fun w => key_eql y.key x.key w
                by_cases he : y.key = x.key
                · have HF := Lib.hid (not_right_news (HKk.out he))
                  have d1 : decide (y.key = x.key) = true := decide_eq_true he
                  simp only [d1] at fq
                  clear he HAn HKk HKb HTl HFb
                  go_upto_region 11 with fail
                  refine wp_region_qs (fun _ w' => w'.cell? ⟨w.heap.size, 4, none⟩ = some (.slice (some ⟨b, off, none⟩) o.news.length c) ∧ w'.rangeAt b (off + k * 36) (keyL y.key) ∧ w'.rangeAt b (off + i * 36) (keyL x.key)) [(0, some 0), (1, some 0), (2, some 0), (3, some 0), (4, some 0), (5, some 0), (6, some 0), (7, some 0), (8, some 0), (9, some 0), (10, some 0), (11, some 0), (12, some 0)] (by kernel_rfl) (by kernel_rfl) (by kernel_rfl) (by kernel_rfl) (by kernel_rfl) (fun _ _ _ _ _ h => h) ⟨c4, RY.out, RX.out⟩ ?_
                  simp only [List.map_cons, List.map_nil, List.getD_cons_succ, List.getD_cons_zero]
                  (repeat (first | ((first | (refine qs_row (by rfl) 50 (.tmp 41) (by rfl) b (off + k * 36) (by rfl) (keyL y.key) _ (fun j w' _ h2 h => h.2.1) Tryz.underlying50 rfl (keyL_info _) ?_) | (refine qs_row (by rfl) 50 (.tmp 47) (by rfl) b (off + i * 36) (by rfl) (keyL x.key) _ (fun j w' _ h2 h => h.2.2) Tryz.underlying50 rfl (keyL_info _) ?_)); simp only [Act.put, List.setIfInBounds_toArray, List.set_cons_zero, List.set_cons_succ]) | (refine qs_now (v := ?_) (by rfl) ?_ ?_; rotate_left 1; (· (intro w' hS; go_simp; (try (simp only [↓IntWalk.iteOmega]; go_simp)); (try simp (disch := omega) only [IntWalk.i64_in]); try with_reducible rfl)); simp only [Act.put, List.setIfInBounds_toArray, List.set_cons_zero, List.set_cons_succ]) | (refine qs_run (v := ?_) (by rfl) ?_ ?_; rotate_left 1; (· (intro j w' hS; go_simp; (try (simp only [↓IntWalk.iteOmega]; go_simp)); (try simp (disch := omega) only [IntWalk.i64_in]); try with_reducible rfl)); simp only [Act.put, List.setIfInBounds_toArray, List.set_cons_zero, List.set_cons_succ]) | (refine qs_mid (v := ?_) (by rfl) ?_ ?_; rotate_left 1; (· (intro j w' hj1 hj2 hS; go_simp; (try (simp only [↓IntWalk.iteOmega]; go_simp)); (try simp (disch := omega) only [IntWalk.i64_in]); try with_reducible rfl)); simp only [Act.put, List.setIfInBounds_toArray, List.set_cons_zero, List.set_cons_succ]) | (refine qs_skip (by rfl) ?_; simp only [Act.put, List.setIfInBounds_toArray, List.set_cons_zero, List.set_cons_succ])))
                  refine qs_nil ?_
                  go_wp2_with fail
                  go_ret
                  exact ⟨by rw [HF.out]; rfl, below_chain L1.out LK.out.drew⟩
                · have HF := Lib.hid (HAn.out (decide_eq_false he))
                  have d1 : decide (y.key = x.key) = false := decide_eq_false he
                  simp only [d1] at fq
                  clear he HAn HKk HKb HTl HFb
                  go_upto_region 11 with fail
                  refine wp_region_qs (fun _ w' => w'.cell? ⟨w.heap.size, 4, none⟩ = some (.slice (some ⟨b, off, none⟩) o.news.length c) ∧ w'.rangeAt b (off + k * 36) (keyL y.key) ∧ w'.rangeAt b (off + i * 36) (keyL x.key)) [(0, some 0), (1, some 0), (2, some 0), (3, some 0), (4, some 0), (5, some 0), (6, some 0), (7, some 0), (8, some 0), (9, some 0), (10, some 0), (11, some 0), (12, some 0)] (by kernel_rfl) (by kernel_rfl) (by kernel_rfl) (by kernel_rfl) (by kernel_rfl) (fun _ _ _ _ _ h => h) ⟨c4, RY.out, RX.out⟩ ?_
                  simp only [List.map_cons, List.map_nil, List.getD_cons_succ, List.getD_cons_zero]
                  (repeat (first | ((first | (refine qs_row (by rfl) 50 (.tmp 41) (by rfl) b (off + k * 36) (by rfl) (keyL y.key) _ (fun j w' _ h2 h => h.2.1) Tryz.underlying50 rfl (keyL_info _) ?_) | (refine qs_row (by rfl) 50 (.tmp 47) (by rfl) b (off + i * 36) (by rfl) (keyL x.key) _ (fun j w' _ h2 h => h.2.2) Tryz.underlying50 rfl (keyL_info _) ?_)); simp only [Act.put, List.setIfInBounds_toArray, List.set_cons_zero, List.set_cons_succ]) | (refine qs_now (v := ?_) (by rfl) ?_ ?_; rotate_left 1; (· (intro w' hS; go_simp; (try (simp only [↓IntWalk.iteOmega]; go_simp)); (try simp (disch := omega) only [IntWalk.i64_in]); try with_reducible rfl)); simp only [Act.put, List.setIfInBounds_toArray, List.set_cons_zero, List.set_cons_succ]) | (refine qs_run (v := ?_) (by rfl) ?_ ?_; rotate_left 1; (· (intro j w' hS; go_simp; (try (simp only [↓IntWalk.iteOmega]; go_simp)); (try simp (disch := omega) only [IntWalk.i64_in]); try with_reducible rfl)); simp only [Act.put, List.setIfInBounds_toArray, List.set_cons_zero, List.set_cons_succ]) | (refine qs_mid (v := ?_) (by rfl) ?_ ?_; rotate_left 1; (· (intro j w' hj1 hj2 hS; go_simp; (try (simp only [↓IntWalk.iteOmega]; go_simp)); (try simp (disch := omega) only [IntWalk.i64_in]); try with_reducible rfl)); simp only [Act.put, List.setIfInBounds_toArray, List.set_cons_zero, List.set_cons_succ]) | (refine qs_skip (by rfl) ?_; simp only [Act.put, List.setIfInBounds_toArray, List.set_cons_zero, List.set_cons_succ])))
                  refine qs_nil ?_
                  go_wp2_with fail
                  go_roundg (gk - 1)
                  case measure => omega
                  case rel => exact ⟨k + 1, by congr 1, by omega, by omega, by omega, HF.out, LK.out.drew⟩
              · have hkI : ¬ (k : Int) < (i : Int) := by omega
                have hke : k = i := by omega
                subst hke
                have HF := Lib.hid (HTl.out (by trivial) HQ.out)
                go_wp2_with fail
                go_roundg (g0 - 1)
                case measure => have h := HG.out; omega
                case rel => have h := HG.out; exact ⟨k + 1, by congr 1, by omega, by omega, by omega, HF.out, LK.out⟩
        · have hiI : ¬ (i : Int) < (o.news.length : Int) := by omega
          have HNb := Lib.hid (show newsB o.news = true by
            have := HA.out
            rwa [List.take_of_length_le (by omega)] at this)
          have HW2 := Lib.hid (show writeB o = putsB o.puts 0 by rw [HW.out, HNb.out]; rfl)
          clear HNb HW HA
          obtain ⟨w2, hw2⟩ : ∃ v, v = wr := ⟨_, rfl⟩
          have L2 := Lib.hid (below_chain L1.out LB.out)
          rw [← hw2] at LB L2 c4 ⊢
          clear Kr
          have K2 := Lib.hid (K1.out.below LB.out K1.out.lt)
          clear hw2 LB
          go_upto_region 15 with fail
          go_loopg [5, 6] o.puts.length (fun k lv iv wr => Wp25 w2 o k lv iv wr)
          case atStart => exact ⟨0, -1, rfl, rfl, by omega, by omega, by omega, by omega, by omega, by simp, Below.refl _ _⟩
          case round =>
            obtain ⟨i, last, rfl, rfl, l1, l2, i1, i2, i3, ha, hb⟩ := hrel
            have HA := Lib.hid ha
            have LB := Lib.hid hb
            clear ha hb
            have Kr := Lib.hid (K2.out.below LB.out K2.out.lt)
            clear c4
            have c5 := Kr.out.cell (i := 5) (v := .slice B o.puts.length d) rfl
            by_cases hi : i < o.puts.length
            · have hiI : (i : Int) < (o.puts.length : Int) := by omega
              have hs := (H.out.puts.below (below_chain L2.out LB.out))
              obtain ⟨b, off, hA, hr⟩ := src_part puC_len hs rfl hi
              have HD := Lib.hid (show putsB o.puts 0 = (puB o.puts[i] (last + 1) && putsB (o.puts.drop (i + 1)) (o.puts[i].unit + 1)) from HA.out.trans (putsB_drop hi _))
              generalize o.puts[i] = x at hr HD
              subst hA
              have k0 : wr.cell? ⟨b, off + i * 35, none⟩ = some (.int .i64 x.unit) := hr 0 _ rfl
              have RS := Lib.hid (rng_sub hr 1 (slC x.sl) (by show (slC x.sl).take _ = _; exact List.take_of_length_le (Nat.le_refl _)))
              clear hr hs
              by_cases h1 : x.unit ≤ last
              · have HF := Lib.hid (not_right_puts (show putsB o.puts 0 = false by rw [HD.out, puB_is, decide_eq_false (show ¬ last + 1 ≤ x.unit by omega)]; rfl))
                clear HD
                go_wp2_with fail
                go_ret
                exact ⟨by rw [HF.out]; rfl, below_chain L2.out LB.out⟩
              · by_cases h2 : 512 ≤ x.unit
                · have HF := Lib.hid (not_right_puts (show putsB o.puts 0 = false by rw [HD.out, puB_is, decide_eq_false (show ¬ x.unit ≤ 511 by omega)]; simp))
                  clear HD
                  go_wp2_with fail
                  go_ret
                  exact ⟨by rw [HF.out]; rfl, below_chain L2.out LB.out⟩
                · obtain ⟨sb, hsb⟩ : ∃ q, q = sliceB x.sl := ⟨_, rfl⟩
                  have HSb := Lib.hid hsb
                  have HD2 := Lib.hid (show putsB o.puts 0 = (sb && putsB (o.puts.drop (i + 1)) (x.unit + 1)) by rw [HD.out, puB_is, decide_eq_true (show last + 1 ≤ x.unit by omega), decide_eq_true (show x.unit ≤ 511 by omega), hsb]; rfl)
                  clear HD hsb
                  have hbl : b < wr.heap.size := block_lt_of_cell k0
                  cases sb
                  · have HF := Lib.hid (not_right_puts HD2.out)
                    clear HD2
                    go_wp2_with (first
                      | ((with_reducible show wpList _ _ _ (_ :: _) _ _); refine wpl_loadG (by rfl) 54 (.tmp 79) (by rfl) b (off + i * 35 + 1) (by rfl) (slC x.sl) _ RS.out Tryz.underlying54 rfl (slC_info _) ?_; simp only [Act.put, List.setIfInBounds_toArray, List.set_cons_zero, List.set_cons_succ])
                      | (go_at_call 114; refine (slice14 x.sl).mono ?_; rintro e w6 ⟨rfl, hb⟩; rewrite [← HSb.out]; have L6 := Lib.hid (below_chain LB.out hb); clear hb))
                    go_ret
                    exact ⟨by rw [HF.out]; rfl, below_chain L2.out L6.out⟩
                  · go_wp2_with (first
                      | ((with_reducible show wpList _ _ _ (_ :: _) _ _); refine wpl_loadG (by rfl) 54 (.tmp 79) (by rfl) b (off + i * 35 + 1) (by rfl) (slC x.sl) _ RS.out Tryz.underlying54 rfl (slC_info _) ?_; simp only [Act.put, List.setIfInBounds_toArray, List.set_cons_zero, List.set_cons_succ])
                      | (go_at_call 114; refine (slice14 x.sl).mono ?_; rintro e w6 ⟨rfl, hb⟩; rewrite [← HSb.out]; have L6 := Lib.hid (below_chain LB.out hb); have c5' := (Kr.out.below hb Kr.out.lt).cell (i := 5) (v := .slice (some ⟨b, off, none⟩) o.puts.length d) rfl; have q0 : w6.cell? ⟨b, off + i * 35, none⟩ = some (.int .i64 x.unit) := (World.cell?_of_block (a := ⟨b, off + i * 35, none⟩) (hb.block b hbl)).trans k0; clear hb))
                    go_roundg (gk - 1)
                    case measure => omega
                    case rel => exact ⟨i + 1, x.unit, by congr 1, rfl, by omega, by omega, by omega, by omega, by omega, HD2.out, L6.out⟩
            · have hiI : ¬ (i : Int) < (o.puts.length : Int) := by omega
              have HF := Lib.hid (show writeB o = true by
                have := HA.out
                rw [List.drop_of_length_le (by omega)] at this
                rw [HW2.out, this]
                rfl)
              go_wp2_with fail
              go_ret
              exact ⟨by rw [HF.out]; rfl, below_chain L2.out LB.out⟩
    · have hI1 : ¬ 18 < (o.news.length : Int) := by omega
      have hI2 : 18 < (o.puts.length : Int) := by omega
      have HW := Lib.hid (show writeB o = false by unfold writeB; rw [decide_eq_false hm18]; simp)
      go_enter Tryz.func98, Tryz.ntmps98
      go_upto_region 1 with (first
        | ((with_reducible show wpList _ _ _ (_ :: _) _ _); refine wpl_box rfl 35 (.tmp 0) (by rfl) (opC o A c B d).toArray (by rfl) ?_; intro w1 hk hg hz; have K1 := Lib.hid hk; have L1 := Lib.hid (bl_n (Below.refl _ w) hg); clear hk hg hz; simp only [Act.put, List.setIfInBounds_toArray, List.set_cons_zero, List.set_cons_succ]))
      have c4 := K1.out.cell (i := 4) (v := .slice A o.news.length c) rfl
      have c5 := K1.out.cell (i := 5) (v := .slice B o.puts.length d) rfl
      go_wp2_with fail
      go_ret
      exact ⟨by rw [HW.out]; rfl, L1.out⟩
  · have hI1 : 18 < (o.news.length : Int) := by omega
    have HW := Lib.hid (show writeB o = false by unfold writeB; rw [decide_eq_false hn18]; simp)
    go_enter Tryz.func98, Tryz.ntmps98
    go_upto_region 1 with (first
      | ((with_reducible show wpList _ _ _ (_ :: _) _ _); refine wpl_box rfl 35 (.tmp 0) (by rfl) (opC o A c B d).toArray (by rfl) ?_; intro w1 hk hg hz; have K1 := Lib.hid hk; have L1 := Lib.hid (bl_n (Below.refl _ w) hg); clear hk hg hz; simp only [Act.put, List.setIfInBounds_toArray, List.set_cons_zero, List.set_cons_succ]))
    have c4 := K1.out.cell (i := 4) (v := .slice A o.news.length c) rfl
    go_wp2_with fail
    go_ret
    exact ⟨by rw [HW.out]; rfl, L1.out⟩
end Go.Proofs.YtgjjdfhoakailaaGreat
namespace Go.Proofs.YtgjjdfhoakailaaGreat
open Go.RowKit Go.Maps Go.Sort Go.Shelf
set_option linter.unusedVariables false
set_option linter.unusedSimpArgs false

set_option maxRecDepth 100000 in
set_option maxHeartbeats 8000000 in
theorem r25_1 {w : World} {o : OpV} {A : Option Addr} {c : Nat} {B : Option Addr} {d : Nat} (h : OpAt w o A c B d) (hn : o.news.length ≤ 100000000) (hm : o.puts.length ≤ 100000000) (hkk : o.kind = 1) :
    Calls Tryz.prog 50 #[.agg (opC o A c B d).toArray] w (RgPost o w) := by
  have e1 : (o.kind == 1) = true := beq_iff_eq.2 hkk
  have e2 : (o.kind == 2) = false := beq_eq_false_iff_ne.2 (by omega)
  have e3 : (o.kind == 3) = false := beq_eq_false_iff_ne.2 (by omega)
  have e4 : (o.kind == 4) = false := beq_eq_false_iff_ne.2 (by omega)
  have e5 : (o.kind == 5) = false := beq_eq_false_iff_ne.2 (by omega)
  have HKK := Lib.hid hkk
  clear hkk
  have H := Lib.hid h
  clear h
  go_enter Tryz.func50, Tryz.ntmps50
  go_upto_region 1 with (first
    | ((with_reducible show wpList _ _ _ (_ :: _) _ _); refine wpl_box rfl 35 (.tmp 0) (by rfl) (opC o A c B d).toArray (by rfl) ?_; intro w1 hk hg hz; have K1 := Lib.hid hk; have L1 := Lib.hid (bl_n (Below.refl _ w) hg); clear hk hg hz; simp only [Act.put, List.setIfInBounds_toArray, List.set_cons_zero, List.set_cons_succ]))
  obtain ⟨c0, c1, c2, c3, c4, c5⟩ := op_cells K1.out
  by_cases h1 : o.news.length = 0
  · have el : ((o.news.length : Int) == 0) = true := beq_iff_eq.2 (by omega)
    by_cases h2 : o.puts.length = 0
    · have em : ((o.puts.length : Int) == 0) = true := beq_iff_eq.2 (by omega)
      by_cases hp : o.pos = 0
      · skip
        have ep : (o.pos == 0) = true := beq_iff_eq.2 hp
        by_cases hq : o.n = 0
        · skip
          have eq : (o.n == 0) = true := beq_iff_eq.2 hq
          by_cases hs : o.snap = 0
          · skip
            have es : (o.snap == 0) = true := beq_iff_eq.2 hs
            have HR := Lib.hid (show rightB o = writeB o by unfold rightB; rw [if_pos HKK.out, decide_eq_true hp, decide_eq_true hq, decide_eq_true hs]; rfl)
            clear hp hq hs h1 h2
            have R1 := Lib.hid (show w1.rangeAt w.heap.size 0 (opC o A c B d) by have := K1.out.range; rwa [toArr] at this)
            have HO := Lib.hid (H.out.below L1.out)
            go_wp2_with (first | ((with_reducible show wpList _ _ _ (_ :: _) _ _); refine wpl_loadG (by rfl) 35 (.tmp 1) (by rfl) w.heap.size 0 (by rfl) (opC o A c B d) _ R1.out Tryz.underlying35 rfl (opC_info o A c B d) ?_; simp only [Act.put, List.setIfInBounds_toArray, List.set_cons_zero, List.set_cons_succ]) | (go_at_call 98; refine (write25 HO.out hn hm).mono ?_; rintro e w3 ⟨rfl, hb⟩; have L3 := Lib.hid (below_chain L1.out hb); clear hb))
            go_ret
            exact ⟨by rw [HR.out]; rfl, L3.out⟩
          · skip
            have es : (o.snap == 0) = false := beq_eq_false_iff_ne.2 hs
            have HR := Lib.hid (no_of _ (r1_of HKK.out) (by omega))
            clear hp hq hs h1 h2
            go_wp2_with fail
            go_ret
            exact ⟨by rw [HR.out]; rfl, L1.out⟩
        · skip
          have eq : (o.n == 0) = false := beq_eq_false_iff_ne.2 hq
          have HR := Lib.hid (no_of _ (r1_of HKK.out) (by omega))
          clear hp hq h1 h2
          go_wp2_with fail
          go_ret
          exact ⟨by rw [HR.out]; rfl, L1.out⟩
      · skip
        have ep : (o.pos == 0) = false := beq_eq_false_iff_ne.2 hp
        have HR := Lib.hid (no_of _ (r1_of HKK.out) (by omega))
        clear hp h1 h2
        go_wp2_with fail
        go_ret
        exact ⟨by rw [HR.out]; rfl, L1.out⟩
    · have em : ((o.puts.length : Int) == 0) = false := beq_eq_false_iff_ne.2 (by omega)
      by_cases hp : o.pos = 0
      · skip
        have ep : (o.pos == 0) = true := beq_iff_eq.2 hp
        by_cases hq : o.n = 0
        · skip
          have eq : (o.n == 0) = true := beq_iff_eq.2 hq
          by_cases hs : o.snap = 0
          · skip
            have es : (o.snap == 0) = true := beq_iff_eq.2 hs
            have HR := Lib.hid (show rightB o = writeB o by unfold rightB; rw [if_pos HKK.out, decide_eq_true hp, decide_eq_true hq, decide_eq_true hs]; rfl)
            clear hp hq hs h1 h2
            have R1 := Lib.hid (show w1.rangeAt w.heap.size 0 (opC o A c B d) by have := K1.out.range; rwa [toArr] at this)
            have HO := Lib.hid (H.out.below L1.out)
            go_wp2_with (first | ((with_reducible show wpList _ _ _ (_ :: _) _ _); refine wpl_loadG (by rfl) 35 (.tmp 1) (by rfl) w.heap.size 0 (by rfl) (opC o A c B d) _ R1.out Tryz.underlying35 rfl (opC_info o A c B d) ?_; simp only [Act.put, List.setIfInBounds_toArray, List.set_cons_zero, List.set_cons_succ]) | (go_at_call 98; refine (write25 HO.out hn hm).mono ?_; rintro e w3 ⟨rfl, hb⟩; have L3 := Lib.hid (below_chain L1.out hb); clear hb))
            go_ret
            exact ⟨by rw [HR.out]; rfl, L3.out⟩
          · skip
            have es : (o.snap == 0) = false := beq_eq_false_iff_ne.2 hs
            have HR := Lib.hid (no_of _ (r1_of HKK.out) (by omega))
            clear hp hq hs h1 h2
            go_wp2_with fail
            go_ret
            exact ⟨by rw [HR.out]; rfl, L1.out⟩
        · skip
          have eq : (o.n == 0) = false := beq_eq_false_iff_ne.2 hq
          have HR := Lib.hid (no_of _ (r1_of HKK.out) (by omega))
          clear hp hq h1 h2
          go_wp2_with fail
          go_ret
          exact ⟨by rw [HR.out]; rfl, L1.out⟩
      · skip
        have ep : (o.pos == 0) = false := beq_eq_false_iff_ne.2 hp
        have HR := Lib.hid (no_of _ (r1_of HKK.out) (by omega))
        clear hp h1 h2
        go_wp2_with fail
        go_ret
        exact ⟨by rw [HR.out]; rfl, L1.out⟩
  · have el : ((o.news.length : Int) == 0) = false := beq_eq_false_iff_ne.2 (by omega)
    by_cases hp : o.pos = 0
    · skip
      have ep : (o.pos == 0) = true := beq_iff_eq.2 hp
      by_cases hq : o.n = 0
      · skip
        have eq : (o.n == 0) = true := beq_iff_eq.2 hq
        by_cases hs : o.snap = 0
        · skip
          have es : (o.snap == 0) = true := beq_iff_eq.2 hs
          have HR := Lib.hid (show rightB o = writeB o by unfold rightB; rw [if_pos HKK.out, decide_eq_true hp, decide_eq_true hq, decide_eq_true hs]; rfl)
          clear hp hq hs h1
          have R1 := Lib.hid (show w1.rangeAt w.heap.size 0 (opC o A c B d) by have := K1.out.range; rwa [toArr] at this)
          have HO := Lib.hid (H.out.below L1.out)
          go_wp2_with (first | ((with_reducible show wpList _ _ _ (_ :: _) _ _); refine wpl_loadG (by rfl) 35 (.tmp 1) (by rfl) w.heap.size 0 (by rfl) (opC o A c B d) _ R1.out Tryz.underlying35 rfl (opC_info o A c B d) ?_; simp only [Act.put, List.setIfInBounds_toArray, List.set_cons_zero, List.set_cons_succ]) | (go_at_call 98; refine (write25 HO.out hn hm).mono ?_; rintro e w3 ⟨rfl, hb⟩; have L3 := Lib.hid (below_chain L1.out hb); clear hb))
          go_ret
          exact ⟨by rw [HR.out]; rfl, L3.out⟩
        · skip
          have es : (o.snap == 0) = false := beq_eq_false_iff_ne.2 hs
          have HR := Lib.hid (no_of _ (r1_of HKK.out) (by omega))
          clear hp hq hs h1
          go_wp2_with fail
          go_ret
          exact ⟨by rw [HR.out]; rfl, L1.out⟩
      · skip
        have eq : (o.n == 0) = false := beq_eq_false_iff_ne.2 hq
        have HR := Lib.hid (no_of _ (r1_of HKK.out) (by omega))
        clear hp hq h1
        go_wp2_with fail
        go_ret
        exact ⟨by rw [HR.out]; rfl, L1.out⟩
    · skip
      have ep : (o.pos == 0) = false := beq_eq_false_iff_ne.2 hp
      have HR := Lib.hid (no_of _ (r1_of HKK.out) (by omega))
      clear hp h1
      go_wp2_with fail
      go_ret
      exact ⟨by rw [HR.out]; rfl, L1.out⟩
set_option maxRecDepth 100000 in
set_option maxHeartbeats 8000000 in
theorem r25_2 {w : World} {o : OpV} {A : Option Addr} {c : Nat} {B : Option Addr} {d : Nat} (h : OpAt w o A c B d) (hn : o.news.length ≤ 100000000) (hm : o.puts.length ≤ 100000000) (hkk : o.kind = 2) :
    Calls Tryz.prog 50 #[.agg (opC o A c B d).toArray] w (RgPost o w) := by
  have e1 : (o.kind == 1) = false := beq_eq_false_iff_ne.2 (by omega)
  have e2 : (o.kind == 2) = true := beq_iff_eq.2 hkk
  have e3 : (o.kind == 3) = false := beq_eq_false_iff_ne.2 (by omega)
  have e4 : (o.kind == 4) = false := beq_eq_false_iff_ne.2 (by omega)
  have e5 : (o.kind == 5) = false := beq_eq_false_iff_ne.2 (by omega)
  have HI := Lib.hid (r2_is hkk)
  clear hkk
  have H := Lib.hid h
  clear h
  go_enter Tryz.func50, Tryz.ntmps50
  go_upto_region 1 with (first
    | ((with_reducible show wpList _ _ _ (_ :: _) _ _); refine wpl_box rfl 35 (.tmp 0) (by rfl) (opC o A c B d).toArray (by rfl) ?_; intro w1 hk hg hz; have K1 := Lib.hid hk; have L1 := Lib.hid (bl_n (Below.refl _ w) hg); clear hk hg hz; simp only [Act.put, List.setIfInBounds_toArray, List.set_cons_zero, List.set_cons_succ]))
  obtain ⟨c0, c1, c2, c3, c4, c5⟩ := op_cells K1.out
  by_cases h1 : o.news.length = 0
  · have el : ((o.news.length : Int) == 0) = true := beq_iff_eq.2 (by omega)
    by_cases h2 : o.puts.length = 0
    · have em : ((o.puts.length : Int) == 0) = true := beq_iff_eq.2 (by omega)
      by_cases hs : o.snap = 0
      · skip
        have es : (o.snap == 0) = true := beq_iff_eq.2 hs
        by_cases g1 : 0 ≤ o.pos
        · skip
          by_cases g2 : o.pos ≤ 4096
          · skip
            by_cases g3 : 0 ≤ o.n
            · skip
              by_cases g4 : o.n ≤ 4096
              · skip
                have HR := Lib.hid (HI.out.2 (by omega))
                clear hs h1 h2
                go_wp2_with fail
                go_ret
                exact ⟨by rw [HR.out]; rfl, L1.out⟩
              · skip
                have HR := Lib.hid (no_is HI.out (by omega))
                clear hs h1 h2
                go_wp2_with fail
                go_ret
                exact ⟨by rw [HR.out]; rfl, L1.out⟩
            · skip
              have HR := Lib.hid (no_is HI.out (by omega))
              clear hs h1 h2
              go_wp2_with fail
              go_ret
              exact ⟨by rw [HR.out]; rfl, L1.out⟩
          · skip
            have HR := Lib.hid (no_is HI.out (by omega))
            clear hs h1 h2
            go_wp2_with fail
            go_ret
            exact ⟨by rw [HR.out]; rfl, L1.out⟩
        · skip
          have HR := Lib.hid (no_is HI.out (by omega))
          clear hs h1 h2
          go_wp2_with fail
          go_ret
          exact ⟨by rw [HR.out]; rfl, L1.out⟩
      · skip
        have es : (o.snap == 0) = false := beq_eq_false_iff_ne.2 hs
        have HR := Lib.hid (no_is HI.out (by omega))
        clear hs h1 h2
        go_wp2_with fail
        go_ret
        exact ⟨by rw [HR.out]; rfl, L1.out⟩
    · have em : ((o.puts.length : Int) == 0) = false := beq_eq_false_iff_ne.2 (by omega)
      have HR := Lib.hid (no_is HI.out (by omega))
      clear h1 h2
      go_wp2_with fail
      go_ret
      exact ⟨by rw [HR.out]; rfl, L1.out⟩
  · have el : ((o.news.length : Int) == 0) = false := beq_eq_false_iff_ne.2 (by omega)
    have HR := Lib.hid (no_is HI.out (by omega))
    clear h1
    go_wp2_with fail
    go_ret
    exact ⟨by rw [HR.out]; rfl, L1.out⟩
set_option maxRecDepth 100000 in
set_option maxHeartbeats 8000000 in
theorem r25_3 {w : World} {o : OpV} {A : Option Addr} {c : Nat} {B : Option Addr} {d : Nat} (h : OpAt w o A c B d) (hn : o.news.length ≤ 100000000) (hm : o.puts.length ≤ 100000000) (hkk : o.kind = 3) :
    Calls Tryz.prog 50 #[.agg (opC o A c B d).toArray] w (RgPost o w) := by
  have e1 : (o.kind == 1) = false := beq_eq_false_iff_ne.2 (by omega)
  have e2 : (o.kind == 2) = false := beq_eq_false_iff_ne.2 (by omega)
  have e3 : (o.kind == 3) = true := beq_iff_eq.2 hkk
  have e4 : (o.kind == 4) = false := beq_eq_false_iff_ne.2 (by omega)
  have e5 : (o.kind == 5) = false := beq_eq_false_iff_ne.2 (by omega)
  have HI := Lib.hid (r3_is (by omega : o.kind = 3 ∨ o.kind = 4 ∨ o.kind = 5))
  clear hkk
  have H := Lib.hid h
  clear h
  go_enter Tryz.func50, Tryz.ntmps50
  go_upto_region 1 with (first
    | ((with_reducible show wpList _ _ _ (_ :: _) _ _); refine wpl_box rfl 35 (.tmp 0) (by rfl) (opC o A c B d).toArray (by rfl) ?_; intro w1 hk hg hz; have K1 := Lib.hid hk; have L1 := Lib.hid (bl_n (Below.refl _ w) hg); clear hk hg hz; simp only [Act.put, List.setIfInBounds_toArray, List.set_cons_zero, List.set_cons_succ]))
  obtain ⟨c0, c1, c2, c3, c4, c5⟩ := op_cells K1.out
  by_cases h1 : o.news.length = 0
  · have el : ((o.news.length : Int) == 0) = true := beq_iff_eq.2 (by omega)
    by_cases h2 : o.puts.length = 0
    · have em : ((o.puts.length : Int) == 0) = true := beq_iff_eq.2 (by omega)
      by_cases hp : o.pos = 0
      · skip
        have ep : (o.pos == 0) = true := beq_iff_eq.2 hp
        by_cases hq : o.n = 0
        · skip
          have eq : (o.n == 0) = true := beq_iff_eq.2 hq
          by_cases g1 : 1 ≤ o.snap
          · skip
            by_cases g2 : o.snap ≤ 1073741824
            · skip
              have HR := Lib.hid (HI.out.2 (by omega))
              clear hp hq h1 h2
              go_wp2_with fail
              go_ret
              exact ⟨by rw [HR.out]; rfl, L1.out⟩
            · skip
              have HR := Lib.hid (no_is HI.out (by omega))
              clear hp hq h1 h2
              go_wp2_with fail
              go_ret
              exact ⟨by rw [HR.out]; rfl, L1.out⟩
          · skip
            have HR := Lib.hid (no_is HI.out (by omega))
            clear hp hq h1 h2
            go_wp2_with fail
            go_ret
            exact ⟨by rw [HR.out]; rfl, L1.out⟩
        · skip
          have eq : (o.n == 0) = false := beq_eq_false_iff_ne.2 hq
          have HR := Lib.hid (no_is HI.out (by omega))
          clear hp hq h1 h2
          go_wp2_with fail
          go_ret
          exact ⟨by rw [HR.out]; rfl, L1.out⟩
      · skip
        have ep : (o.pos == 0) = false := beq_eq_false_iff_ne.2 hp
        have HR := Lib.hid (no_is HI.out (by omega))
        clear hp h1 h2
        go_wp2_with fail
        go_ret
        exact ⟨by rw [HR.out]; rfl, L1.out⟩
    · have em : ((o.puts.length : Int) == 0) = false := beq_eq_false_iff_ne.2 (by omega)
      have HR := Lib.hid (no_is HI.out (by omega))
      clear h1 h2
      go_wp2_with fail
      go_ret
      exact ⟨by rw [HR.out]; rfl, L1.out⟩
  · have el : ((o.news.length : Int) == 0) = false := beq_eq_false_iff_ne.2 (by omega)
    have HR := Lib.hid (no_is HI.out (by omega))
    clear h1
    go_wp2_with fail
    go_ret
    exact ⟨by rw [HR.out]; rfl, L1.out⟩
set_option maxRecDepth 100000 in
set_option maxHeartbeats 8000000 in
theorem r25_4 {w : World} {o : OpV} {A : Option Addr} {c : Nat} {B : Option Addr} {d : Nat} (h : OpAt w o A c B d) (hn : o.news.length ≤ 100000000) (hm : o.puts.length ≤ 100000000) (hkk : o.kind = 4) :
    Calls Tryz.prog 50 #[.agg (opC o A c B d).toArray] w (RgPost o w) := by
  have e1 : (o.kind == 1) = false := beq_eq_false_iff_ne.2 (by omega)
  have e2 : (o.kind == 2) = false := beq_eq_false_iff_ne.2 (by omega)
  have e3 : (o.kind == 3) = false := beq_eq_false_iff_ne.2 (by omega)
  have e4 : (o.kind == 4) = true := beq_iff_eq.2 hkk
  have e5 : (o.kind == 5) = false := beq_eq_false_iff_ne.2 (by omega)
  have HI := Lib.hid (r3_is (by omega : o.kind = 3 ∨ o.kind = 4 ∨ o.kind = 5))
  clear hkk
  have H := Lib.hid h
  clear h
  go_enter Tryz.func50, Tryz.ntmps50
  go_upto_region 1 with (first
    | ((with_reducible show wpList _ _ _ (_ :: _) _ _); refine wpl_box rfl 35 (.tmp 0) (by rfl) (opC o A c B d).toArray (by rfl) ?_; intro w1 hk hg hz; have K1 := Lib.hid hk; have L1 := Lib.hid (bl_n (Below.refl _ w) hg); clear hk hg hz; simp only [Act.put, List.setIfInBounds_toArray, List.set_cons_zero, List.set_cons_succ]))
  obtain ⟨c0, c1, c2, c3, c4, c5⟩ := op_cells K1.out
  by_cases h1 : o.news.length = 0
  · have el : ((o.news.length : Int) == 0) = true := beq_iff_eq.2 (by omega)
    by_cases h2 : o.puts.length = 0
    · have em : ((o.puts.length : Int) == 0) = true := beq_iff_eq.2 (by omega)
      by_cases hp : o.pos = 0
      · skip
        have ep : (o.pos == 0) = true := beq_iff_eq.2 hp
        by_cases hq : o.n = 0
        · skip
          have eq : (o.n == 0) = true := beq_iff_eq.2 hq
          by_cases g1 : 1 ≤ o.snap
          · skip
            by_cases g2 : o.snap ≤ 1073741824
            · skip
              have HR := Lib.hid (HI.out.2 (by omega))
              clear hp hq h1 h2
              go_wp2_with fail
              go_ret
              exact ⟨by rw [HR.out]; rfl, L1.out⟩
            · skip
              have HR := Lib.hid (no_is HI.out (by omega))
              clear hp hq h1 h2
              go_wp2_with fail
              go_ret
              exact ⟨by rw [HR.out]; rfl, L1.out⟩
          · skip
            have HR := Lib.hid (no_is HI.out (by omega))
            clear hp hq h1 h2
            go_wp2_with fail
            go_ret
            exact ⟨by rw [HR.out]; rfl, L1.out⟩
        · skip
          have eq : (o.n == 0) = false := beq_eq_false_iff_ne.2 hq
          have HR := Lib.hid (no_is HI.out (by omega))
          clear hp hq h1 h2
          go_wp2_with fail
          go_ret
          exact ⟨by rw [HR.out]; rfl, L1.out⟩
      · skip
        have ep : (o.pos == 0) = false := beq_eq_false_iff_ne.2 hp
        have HR := Lib.hid (no_is HI.out (by omega))
        clear hp h1 h2
        go_wp2_with fail
        go_ret
        exact ⟨by rw [HR.out]; rfl, L1.out⟩
    · have em : ((o.puts.length : Int) == 0) = false := beq_eq_false_iff_ne.2 (by omega)
      have HR := Lib.hid (no_is HI.out (by omega))
      clear h1 h2
      go_wp2_with fail
      go_ret
      exact ⟨by rw [HR.out]; rfl, L1.out⟩
  · have el : ((o.news.length : Int) == 0) = false := beq_eq_false_iff_ne.2 (by omega)
    have HR := Lib.hid (no_is HI.out (by omega))
    clear h1
    go_wp2_with fail
    go_ret
    exact ⟨by rw [HR.out]; rfl, L1.out⟩
set_option maxRecDepth 100000 in
set_option maxHeartbeats 8000000 in
theorem r25_5 {w : World} {o : OpV} {A : Option Addr} {c : Nat} {B : Option Addr} {d : Nat} (h : OpAt w o A c B d) (hn : o.news.length ≤ 100000000) (hm : o.puts.length ≤ 100000000) (hkk : o.kind = 5) :
    Calls Tryz.prog 50 #[.agg (opC o A c B d).toArray] w (RgPost o w) := by
  have e1 : (o.kind == 1) = false := beq_eq_false_iff_ne.2 (by omega)
  have e2 : (o.kind == 2) = false := beq_eq_false_iff_ne.2 (by omega)
  have e3 : (o.kind == 3) = false := beq_eq_false_iff_ne.2 (by omega)
  have e4 : (o.kind == 4) = false := beq_eq_false_iff_ne.2 (by omega)
  have e5 : (o.kind == 5) = true := beq_iff_eq.2 hkk
  have HI := Lib.hid (r3_is (by omega : o.kind = 3 ∨ o.kind = 4 ∨ o.kind = 5))
  clear hkk
  have H := Lib.hid h
  clear h
  go_enter Tryz.func50, Tryz.ntmps50
  go_upto_region 1 with (first
    | ((with_reducible show wpList _ _ _ (_ :: _) _ _); refine wpl_box rfl 35 (.tmp 0) (by rfl) (opC o A c B d).toArray (by rfl) ?_; intro w1 hk hg hz; have K1 := Lib.hid hk; have L1 := Lib.hid (bl_n (Below.refl _ w) hg); clear hk hg hz; simp only [Act.put, List.setIfInBounds_toArray, List.set_cons_zero, List.set_cons_succ]))
  obtain ⟨c0, c1, c2, c3, c4, c5⟩ := op_cells K1.out
  by_cases h1 : o.news.length = 0
  · have el : ((o.news.length : Int) == 0) = true := beq_iff_eq.2 (by omega)
    by_cases h2 : o.puts.length = 0
    · have em : ((o.puts.length : Int) == 0) = true := beq_iff_eq.2 (by omega)
      by_cases hp : o.pos = 0
      · skip
        have ep : (o.pos == 0) = true := beq_iff_eq.2 hp
        by_cases hq : o.n = 0
        · skip
          have eq : (o.n == 0) = true := beq_iff_eq.2 hq
          by_cases g1 : 1 ≤ o.snap
          · skip
            by_cases g2 : o.snap ≤ 1073741824
            · skip
              have HR := Lib.hid (HI.out.2 (by omega))
              clear hp hq h1 h2
              go_wp2_with fail
              go_ret
              exact ⟨by rw [HR.out]; rfl, L1.out⟩
            · skip
              have HR := Lib.hid (no_is HI.out (by omega))
              clear hp hq h1 h2
              go_wp2_with fail
              go_ret
              exact ⟨by rw [HR.out]; rfl, L1.out⟩
          · skip
            have HR := Lib.hid (no_is HI.out (by omega))
            clear hp hq h1 h2
            go_wp2_with fail
            go_ret
            exact ⟨by rw [HR.out]; rfl, L1.out⟩
        · skip
          have eq : (o.n == 0) = false := beq_eq_false_iff_ne.2 hq
          have HR := Lib.hid (no_is HI.out (by omega))
          clear hp hq h1 h2
          go_wp2_with fail
          go_ret
          exact ⟨by rw [HR.out]; rfl, L1.out⟩
      · skip
        have ep : (o.pos == 0) = false := beq_eq_false_iff_ne.2 hp
        have HR := Lib.hid (no_is HI.out (by omega))
        clear hp h1 h2
        go_wp2_with fail
        go_ret
        exact ⟨by rw [HR.out]; rfl, L1.out⟩
    · have em : ((o.puts.length : Int) == 0) = false := beq_eq_false_iff_ne.2 (by omega)
      have HR := Lib.hid (no_is HI.out (by omega))
      clear h1 h2
      go_wp2_with fail
      go_ret
      exact ⟨by rw [HR.out]; rfl, L1.out⟩
  · have el : ((o.news.length : Int) == 0) = false := beq_eq_false_iff_ne.2 (by omega)
    have HR := Lib.hid (no_is HI.out (by omega))
    clear h1
    go_wp2_with fail
    go_ret
    exact ⟨by rw [HR.out]; rfl, L1.out⟩
set_option maxRecDepth 100000 in
set_option maxHeartbeats 8000000 in
theorem r25_x {w : World} {o : OpV} {A : Option Addr} {c : Nat} {B : Option Addr} {d : Nat} (h : OpAt w o A c B d) (hn : o.news.length ≤ 100000000) (hm : o.puts.length ≤ 100000000) (hkk : o.kind ≠ 1 ∧ o.kind ≠ 2 ∧ o.kind ≠ 3 ∧ o.kind ≠ 4 ∧ o.kind ≠ 5) :
    Calls Tryz.prog 50 #[.agg (opC o A c B d).toArray] w (RgPost o w) := by
  have e1 : (o.kind == 1) = false := beq_eq_false_iff_ne.2 (by omega)
  have e2 : (o.kind == 2) = false := beq_eq_false_iff_ne.2 (by omega)
  have e3 : (o.kind == 3) = false := beq_eq_false_iff_ne.2 (by omega)
  have e4 : (o.kind == 4) = false := beq_eq_false_iff_ne.2 (by omega)
  have e5 : (o.kind == 5) = false := beq_eq_false_iff_ne.2 (by omega)
  have HX := Lib.hid (show rightB o = false by unfold rightB; rw [if_neg (by omega), if_neg (by omega), if_neg (by omega)])
  clear hkk
  have H := Lib.hid h
  clear h
  go_enter Tryz.func50, Tryz.ntmps50
  go_upto_region 1 with (first
    | ((with_reducible show wpList _ _ _ (_ :: _) _ _); refine wpl_box rfl 35 (.tmp 0) (by rfl) (opC o A c B d).toArray (by rfl) ?_; intro w1 hk hg hz; have K1 := Lib.hid hk; have L1 := Lib.hid (bl_n (Below.refl _ w) hg); clear hk hg hz; simp only [Act.put, List.setIfInBounds_toArray, List.set_cons_zero, List.set_cons_succ]))
  obtain ⟨c0, c1, c2, c3, c4, c5⟩ := op_cells K1.out
  by_cases h1 : o.news.length = 0
  · have el : ((o.news.length : Int) == 0) = true := beq_iff_eq.2 (by omega)
    by_cases h2 : o.puts.length = 0
    · have em : ((o.puts.length : Int) == 0) = true := beq_iff_eq.2 (by omega)
      have HR := HX
      clear h1 h2
      go_wp2_with fail
      go_ret
      exact ⟨by rw [HR.out]; rfl, L1.out⟩
    · have em : ((o.puts.length : Int) == 0) = false := beq_eq_false_iff_ne.2 (by omega)
      have HR := HX
      clear h1 h2
      go_wp2_with fail
      go_ret
      exact ⟨by rw [HR.out]; rfl, L1.out⟩
  · have el : ((o.news.length : Int) == 0) = false := beq_eq_false_iff_ne.2 (by omega)
    have HR := HX
    clear h1
    go_wp2_with fail
    go_ret
    exact ⟨by rw [HR.out]; rfl, L1.out⟩
theorem right25 {w : World} {o : OpV} {A : Option Addr} {c : Nat} {B : Option Addr} {d : Nat} (h : OpAt w o A c B d) (hn : o.news.length ≤ 100000000) (hm : o.puts.length ≤ 100000000) :
    Calls Tryz.prog 50 #[.agg (opC o A c B d).toArray] w (RgPost o w) := by
  by_cases k1 : o.kind = 1
  · exact r25_1 h hn hm k1
  · by_cases k2 : o.kind = 2
    · exact r25_2 h hn hm k2
    · by_cases k3 : o.kind = 3
      · exact r25_3 h hn hm k3
      · by_cases k4 : o.kind = 4
        · exact r25_4 h hn hm k4
        · by_cases k5 : o.kind = 5
          · exact r25_5 h hn hm k5
          · exact r25_x h hn hm ⟨k1, k2, k3, k4, k5⟩
end Go.Proofs.YtgjjdfhoakailaaGreat
