/-
  maps: Clear: walked.
-/
import Derived.Test.YtgjjdfhoakailaaGreatStM5
namespace Go.Proofs.YtgjjdfhoakailaaGreat
open Go.RowKit Go.Maps
set_option linter.unusedVariables false
set_option linter.unusedSimpArgs false

/-- Bits taken out of a mask. -/
def anM (m x : Int) : Int := IntKind.i64.wrap ((BitVec.ofInt 64 m &&& ~~~ BitVec.ofInt 64 x).toNat)
def clr1 (s : Sl) (frm to_ : Nat) : Sl := if anM s.mask ((2 : Int) ^ to_ - (2 : Int) ^ frm) = 0 then zSl else ⟨s.key, s.off, anM s.mask ((2 : Int) ^ to_ - (2 : Int) ^ frm)⟩
def clrTo (at_ en : Nat) : Nat := min 8 (at_ % 8 + (en - at_))
/-- What Clear makes of the current map. -/
def clrGo : Nat → MpF → Nat → Nat → MpF
  | 0, f, _, _ => f
  | k + 1, f, at_, en => if at_ < en then clrGo k (upd f (at_ / 8) (clr1 (f (at_ / 8)) (at_ % 8) (clrTo at_ en))) (at_ + (clrTo at_ en - at_ % 8)) en else f
theorem clrGo_done (k : Nat) (f : MpF) (a e : Nat) (h : e ≤ a) : clrGo k f a e = f := by
  cases k with
  | zero => rfl
  | succ k => exact if_neg (by omega)
theorem clrGo_more (k : Nat) (f : MpF) (a e : Nat) (h : e ≤ a + k) : clrGo (k + 1) f a e = clrGo k f a e := by
  induction k generalizing f a with
  | zero => exact clrGo_done 1 f a e h
  | succ k ih =>
    rw [clrGo]
    conv => rhs; rw [clrGo]
    split
    · have ht : a % 8 < clrTo a e := by unfold clrTo; omega
      exact ih _ _ (by omega)
    · rfl
theorem clrGo_fuel (k d : Nat) (f : MpF) (a e : Nat) (h : e ≤ a + k) : clrGo (k + d) f a e = clrGo k f a e := by
  induction d with
  | zero => rfl
  | succ d ih => rw [← Nat.add_assoc, clrGo_more _ _ _ _ (by omega), ih]
theorem clr_step {g : MpF} {p en gk t : Nat} {F : MpF} {v : Int} (h : clrGo gk g p en = F) (hp : p < en) (hk : en ≤ p + gk) (ht : clrTo p en = t) (h8 : t ≤ 8 ∧ p % 8 < t) (hv : v = anM (g (p / 8)).mask ((2 : Int) ^ t - (2 : Int) ^ (p % 8))) :
    clrGo (en - (p + (t - p % 8))) (upd g (p / 8) (if v = 0 then zSl else ⟨(g (p / 8)).key, (g (p / 8)).off, v⟩)) (p + (t - p % 8)) en = F := by
  rw [← h]
  obtain ⟨k, rfl⟩ : ∃ k, gk = k + 1 := ⟨gk - 1, by omega⟩
  rw [clrGo, if_pos hp, ht]
  have e1 : clr1 (g (p / 8)) (p % 8) t = if v = 0 then zSl else ⟨(g (p / 8)).key, (g (p / 8)).off, v⟩ := by
    unfold clr1
    rw [← hv]
  rw [e1]
  obtain ⟨d, hd⟩ : ∃ d, k = en - (p + (t - p % 8)) + d := ⟨k - (en - (p + (t - p % 8))), by omega⟩
  rw [hd, clrGo_fuel _ _ _ _ _ (by omega)]
def clrE (n : Nat) (at_ m : Int) : Int := if at_ < 0 ∨ m < 0 ∨ (n : Int) * 8 < at_ ∨ (n : Int) * 8 - at_ < m then 2 else 0
def clrF (n : Nat) (f : MpF) (at_ m : Int) : MpF := if clrE n at_ m = 0 then clrGo m.toNat f at_.toNat (at_.toNat + m.toNat) else f
def ClrPost (mi bs n : Nat) (f : MpF) (M : SnM) (at_ m : Int) (w : World) (e : Ending) (w' : World) : Prop := e = .returned (.int .i64 (clrE n at_ m)) ∧ MapsIs w' mi bs n (clrF n f at_ m) M ∧ Tch [mi] w w'
def ClrI (mi bs n : Nat) (M : SnM) (en : Nat) (F : MpF) (w : World) (k : Nat) (av : Value) (wr : World) : Prop :=
  ∃ (p : Nat) (g : MpF), av = .int .i64 (p : Int) ∧ p ≤ en ∧ en ≤ p + k ∧ p + k ≤ en ∧ MapsIs wr mi bs n g M ∧ clrGo k g p en = F ∧ Tch [mi] w wr
theorem shl_run {P : Program} {o : Oper} {a : Act} {y : Operand} {ty : TypeId} (ho : o.op = .binOp .shl ty (.const (.int .i64 1)) y ty) {T : Int} (hy : a.eval y = .int .i64 T) {t : Nat} (hT : T = (t : Int)) (ht : t ≤ 8) (w : World) :
    (execOp a.eval o).run P w = .ok (.value (.int .i64 ((2 : Int) ^ t))) w := by
  subst hT
  have e1 : a.eval (.const (.int .i64 1)) = .int .i64 1 := rfl
  unfold execOp
  simp only [ho, hy, e1]
  rcases (by omega : t = 0 ∨ t = 1 ∨ t = 2 ∨ t = 3 ∨ t = 4 ∨ t = 5 ∨ t = 6 ∨ t = 7 ∨ t = 8) with rfl | rfl | rfl | rfl | rfl | rfl | rfl | rfl | rfl <;> rfl
theorem andNot_run {P : Program} {o : Oper} {a : Act} {x y : Operand} {ty : TypeId} (ho : o.op = .binOp .andNot ty x y ty) {m X : Int} (hx : a.eval x = .int .i64 m) (hy : a.eval y = .int .i64 X) (w : World) :
    (execOp a.eval o).run P w = .ok (.value (.int .i64 (anM m X))) w := by
  unfold execOp
  simp only [ho, hx, hy]
  rfl
theorem slC_set (s : Sl) (m : Int) : (slC s).set 33 (.int .i64 m) = slC ⟨s.key, s.off, m⟩ := by
  unfold slC
  rw [List.set_append_right _ _ (by rw [keyL_len]; omega), keyL_len]
  rfl
theorem mapsC_mask (n : Nat) (f : MpF) (bs u : Nat) (hu : u < 512) (m : Int) : (mapsC n f bs).toArray.setIfInBounds (1 + u * 34 + 33) (.int .i64 m) = (mapsC n (upd f u ⟨(f u).key, (f u).off, m⟩) bs).toArray := by
  obtain ⟨A, B, hA, hB⟩ := oneC_cut f u hu
  have h0 := hB (f u)
  rw [upd_self] at h0
  rw [List.setIfInBounds_toArray]
  refine congrArg List.toArray ?_
  unfold mapsC
  rw [h0, hB]
  rw [show 1 + u * 34 + 33 = (u * 34 + 33) + 1 by omega, List.set_cons_succ, List.append_assoc, List.set_append_right _ _ (by omega), hA, Nat.add_sub_cancel_left, List.append_assoc, List.set_append_left _ _ (by rw [slC_len]; omega), slC_set]
  simp
theorem upd_twice (f : MpF) (u : Nat) (s t : Sl) : upd (upd f u s) u t = upd f u t := by
  funext v
  unfold upd
  split <;> rfl
theorem upd_at (f : MpF) (u : Nat) (s : Sl) : upd f u s u = s := by simp [upd]
theorem pow_b {t : Nat} (h : t ≤ 8) : (1 : Int) ≤ 2 ^ t ∧ (2 : Int) ^ t ≤ 256 := by
  rcases (by omega : t = 0 ∨ t = 1 ∨ t = 2 ∨ t = 3 ∨ t = 4 ∨ t = 5 ∨ t = 6 ∨ t = 7 ∨ t = 8) with rfl | rfl | rfl | rfl | rfl | rfl | rfl | rfl | rfl <;> decide
set_option maxRecDepth 100000 in
set_option maxHeartbeats 1000000 in
theorem clear_any {w : World} {mi bs n : Nat} {f : MpF} {M : SnM} (h : MapsIs w mi bs n f M) (at_ m : Int) :
    Calls Tryz.prog 81 #[.pointer (some ⟨mi, 0, none⟩), .int .i64 at_, .int .i64 m] w (ClrPost mi bs n f M at_ m w) := by
  have H := Lib.hid h
  have hn := h.high
  have c0 := h.n_cell
  clear h
  by_cases h1 : at_ < 0
  · have HE := Lib.hid (show clrE n at_ m = 2 from if_pos (by omega))
    go_enter Tryz.func81, Tryz.ntmps81
    go_wp2_with (go_at_call 96; refine (known_any H.out).mono ?_; rintro e w2 ⟨rfl, rfl⟩)
    go_ret
    unfold ClrPost clrF
    rw [HE.out, if_neg (by decide)]
    exact ⟨rfl, H.out, Tch.refl _ _⟩
  by_cases h2 : m < 0
  · have HE := Lib.hid (show clrE n at_ m = 2 from if_pos (by omega))
    go_enter Tryz.func81, Tryz.ntmps81
    go_wp2_with (go_at_call 96; refine (known_any H.out).mono ?_; rintro e w2 ⟨rfl, rfl⟩)
    go_ret
    unfold ClrPost clrF
    rw [HE.out, if_neg (by decide)]
    exact ⟨rfl, H.out, Tch.refl _ _⟩
  by_cases h3 : (n : Int) * 8 < at_
  · have HE := Lib.hid (show clrE n at_ m = 2 from if_pos (by omega))
    go_enter Tryz.func81, Tryz.ntmps81
    go_wp2_with (go_at_call 96; refine (known_any H.out).mono ?_; rintro e w2 ⟨rfl, rfl⟩)
    go_ret
    unfold ClrPost clrF
    rw [HE.out, if_neg (by decide)]
    exact ⟨rfl, H.out, Tch.refl _ _⟩
  by_cases h4 : (n : Int) * 8 - at_ < m
  · have HE := Lib.hid (show clrE n at_ m = 2 from if_pos (by omega))
    go_enter Tryz.func81, Tryz.ntmps81
    go_wp2_with (go_at_call 96; refine (known_any H.out).mono ?_; rintro e w2 ⟨rfl, rfl⟩)
    go_ret
    unfold ClrPost clrF
    rw [HE.out, if_neg (by decide)]
    exact ⟨rfl, H.out, Tch.refl _ _⟩
  obtain ⟨a, rfl⟩ : ∃ a : Nat, at_ = (a : Int) := ⟨at_.toNat, by omega⟩
  obtain ⟨b, rfl⟩ : ∃ b : Nat, m = (b : Int) := ⟨m.toNat, by omega⟩
  have HE := Lib.hid (show clrE n a b = 0 from if_neg (by omega))
  obtain ⟨F, hF⟩ : ∃ F, F = clrF n f a b := ⟨_, rfl⟩
  have HF := Lib.hid (show clrGo b f a (a + b) = F by rw [hF]; unfold clrF; rw [HE.out, if_pos rfl, Int.toNat_natCast, Int.toNat_natCast])
  have HF2 := Lib.hid hF
  clear hF
  go_enter Tryz.func81, Tryz.ntmps81
  go_wp2_with (go_at_call 96; refine (known_any H.out).mono ?_; rintro e w2 ⟨rfl, rfl⟩)
  go_loopg [1] b (fun k av wr => ClrI mi bs n M (a + b) F w k av wr)
  case atStart => exact ⟨a, f, rfl, by omega, by omega, by omega, H.out, HF.out, Tch.refl _ _⟩
  case round =>
    obtain ⟨p, g, rfl, p1, p2, p3, hm, hF, hT⟩ := hrel
    have M1 := Lib.hid hm
    have F1 := Lib.hid hF
    have T1 := Lib.hid hT
    clear hm hF hT
    by_cases hp : p < a + b
    · have hpI : (p : Int) < (a : Int) + (b : Int) := by omega
      have hp8 : p / 8 < 512 := by omega
      have CM := Lib.hid (show wr.drew.cell? ⟨mi, 1 + p / 8 * 34 + 33, none⟩ = some (.int .i64 (g (p / 8)).mask) from M1.out.blk.drew.cell (by rw [mapsC_cell n g bs (p / 8) 33 hp8 (by omega)]; exact slC_mask _))
      by_cases hX : p % 8 + (a + b - p) < 8
      · have hX1 : (p : Int) % 8 + ((a : Int) + (b : Int)) - (p : Int) < 8 := by omega
        have hX2 : ¬ 8 ≤ (p : Int) % 8 + ((a : Int) + (b : Int)) - (p : Int) := by omega
        obtain ⟨X, hXe⟩ : ∃ X, X = p % 8 + (a + b - p) := ⟨_, rfl⟩
        rw [← hXe] at hX
        have HXe := Lib.hid hXe
        clear hXe
        have HT := Lib.hid (show clrTo p (a + b) = X by unfold clrTo; have := HXe.out; omega)
        have htb : X ≤ 8 ∧ p % 8 < X := by have := HXe.out; omega
        have hfr : p % 8 ≤ 8 := by omega
        have hA := pow_b htb.1
        have hB := pow_b hfr
        have HA := Lib.hid (rfl : (2 : Int) ^ (X) = (2 : Int) ^ (X))
        obtain ⟨A, hAe⟩ : ∃ A : Int, A = (2 : Int) ^ (X) := ⟨_, rfl⟩
        obtain ⟨B, hBe⟩ : ∃ B : Int, B = (2 : Int) ^ (p % 8) := ⟨_, rfl⟩
        rw [← hAe] at hA
        rw [← hBe] at hB
        have HAe := Lib.hid hAe
        have HBe := Lib.hid hBe
        clear hAe hBe HA
        obtain ⟨hA1, hA2⟩ := hA
        obtain ⟨hB1, hB2⟩ := hB
        go_wp2_with fail
        refine wp_region_qs (fun j w' => j ≤ 0 → w'.cell? ⟨mi, 1 + p / 8 * 34 + 33, none⟩ = some (.int .i64 (g (p / 8)).mask)) [(0, some 0), (1, some 0), (2, some 0), (3, some 0), (4, some 0), (5, some 0), (6, some 0), (7, some 0), (8, some 0), (9, some 0), (10, some 1), (11, some 0), (12, none)] (by kernel_rfl) (by kernel_rfl) (by kernel_rfl) (by kernel_rfl) (by kernel_rfl) (fun _ _ _ _ _ h => h) (fun _ => CM.out) ?_
        simp only [List.map_cons, List.map_nil, List.getD_cons_succ, List.getD_cons_zero]
        have cmx := CM.out
        have cf := M1.out.blk.drew.free (1 + p / 8 * 34 + 33)
        (repeat (first | ((first | (refine qs_mid (v := .int .i64 (g (p / 8)).mask) (by rfl) ?_ ?_; rotate_left 1; (· (intro j w' h1 h2 hS; have hS2 := hS h2; clear hS; go_simp; done))) | (refine qs_mid (v := .int .i64 B) (by rfl) (fun j w' _ _ _ => by rw [HBe.out]; exact shl_run rfl (y := .tmp 66) rfl (t := p % 8) (by omega) (by omega) w') ?_) | (refine qs_mid (v := .int .i64 A) (by rfl) (fun j w' _ _ _ => by rw [HAe.out]; exact shl_run rfl (y := .tmp 64) rfl (t := X) (by have := HXe.out; omega) (by omega) w') ?_) | (refine qs_mid (v := .int .i64 (anM (g (p / 8)).mask (A - B))) (by rfl) (fun j w' _ _ _ => andNot_run rfl rfl rfl w') ?_)); simp only [Act.put, List.setIfInBounds_toArray, List.set_cons_zero, List.set_cons_succ]) | (refine qs_now (v := ?_) (by rfl) ?_ ?_; rotate_left 1; (· (intro w' hS; go_simp; (try (simp only [↓IntWalk.iteOmega]; go_simp)); (try simp (disch := omega) only [IntWalk.i64_in]); try with_reducible rfl)); simp only [Act.put, List.setIfInBounds_toArray, List.set_cons_zero, List.set_cons_succ]) | (refine qs_run (v := ?_) (by rfl) ?_ ?_; rotate_left 1; (· (intro j w' hS; go_simp; (try (simp only [↓IntWalk.iteOmega]; go_simp)); (try simp (disch := omega) only [IntWalk.i64_in]); try with_reducible rfl)); simp only [Act.put, List.setIfInBounds_toArray, List.set_cons_zero, List.set_cons_succ]) | (refine qs_mid (v := ?_) (by rfl) ?_ ?_; rotate_left 1; (· (intro j w' hj1 hj2 hS; go_simp; (try (simp only [↓IntWalk.iteOmega]; go_simp)); (try simp (disch := omega) only [IntWalk.i64_in]); try with_reducible rfl)); simp only [Act.put, List.setIfInBounds_toArray, List.set_cons_zero, List.set_cons_succ]) | (refine qs_skip (by rfl) ?_; simp only [Act.put, List.setIfInBounds_toArray, List.set_cons_zero, List.set_cons_succ])))
        refine qs_act ?_
        obtain ⟨v, hv⟩ : ∃ v, v = anM (g (p / 8)).mask (A - B) := ⟨_, rfl⟩
        rw [← hv]
        have HV := Lib.hid (show v = anM (g (p / 8)).mask ((2 : Int) ^ (X) - (2 : Int) ^ (p % 8)) by rw [hv, HAe.out, HBe.out])
        clear hv
        go_wp2_with fail
        refine ⟨fun h => absurd h (by omega), ?_⟩
        refine qs_nil ?_
        obtain ⟨w2, hw2⟩ : ∃ w2, w2 = (wr.setCell ⟨mi, 1 + p / 8 * 34 + 33, none⟩ (.int .i64 v)).drew := ⟨_, rfl⟩
        have K2 := (M1.out.blk.put (1 + p / 8 * 34 + 33) (.int .i64 v)).drew
        rw [mapsC_mask n g bs (p / 8) hp8 v, ← hw2] at K2
        have G2 : wr.grownBy w2 (some mi) := by
          have := grown_put wr ⟨mi, 1 + p / 8 * 34 + 33, none⟩ (.int .i64 v)
          rw [hw2]
          exact ⟨this.os, this.tape, this.output, this.size, this.block⟩
        have M2 := Lib.hid (M1.out.set K2 G2)
        have T2 := Lib.hid (T1.out.trans (Tch.grown G2 (fun k hk => by injection hk with hk; subst hk; exact .inl (by simp))))
        rw [← hw2]
        clear hw2 K2 G2 cmx cf
        have cm2 : w2.cell? ⟨mi, 1 + p / 8 * 34 + 33, none⟩ = some (.int .i64 v) := M2.out.blk.cell (by rw [mapsC_cell n _ bs (p / 8) 33 hp8 (by omega), upd_at]; exact slC_mask _)
        by_cases hv0 : v = 0
        · rw [hv0] at cm2
          have HV0 := Lib.hid hv0
          clear hv0
          go_wp2_with (first
            | ((with_reducible show wpList _ _ _ (_ :: _) _ _); refine wpl_mk rfl 54 #[] rfl [] rfl _ built_zSl ?_)
            | ((with_reducible show wpList _ _ _ (_ :: _) _ _); refine wpl_put rfl 54 (.tmp 79) (.tmp 78) rfl mi (1 + p / 8 * 34) (slC zSl) rfl rfl _ _ M2.out.blk (slC_info zSl) (by rw [List.size_toArray, mapsC_len, slC_len]; omega) (slC_one zSl) ?_; intro w3 hk hg hz; have K3 := Lib.hid hk; have G3 := Lib.hid hg; clear hk hg hz))
          go_roundg (a + b - (p + (X - p % 8)))
          case measure => have := HXe.out; omega
          case rel =>
            have K := K3.out
            rw [mapsC_put n _ bs (p / 8) hp8, upd_twice] at K
            have := clr_step F1.out hp p2 HT.out htb HV.out
            rw [if_pos HV0.out] at this
            exact ⟨p + (X - p % 8), _, by have := HXe.out; congr 1; omega, by have := HXe.out; omega, by have := HXe.out; omega, by have := HXe.out; omega, M2.out.set K G3.out, this, T2.out.trans (Tch.grown G3.out (fun k hk => by injection hk with hk; subst hk; exact .inl (by simp)))⟩
        · have ev : (v == 0) = false := beq_eq_false_iff_ne.2 hv0
          go_wp2_with fail
          go_roundg (a + b - (p + (X - p % 8)))
          case measure => have := HXe.out; omega
          case rel =>
            have := clr_step F1.out hp p2 HT.out htb HV.out
            rw [if_neg hv0] at this
            exact ⟨p + (X - p % 8), _, by have := HXe.out; congr 1; omega, by have := HXe.out; omega, by have := HXe.out; omega, by have := HXe.out; omega, M2.out, this, T2.out⟩
      · have hX1 : ¬ (p : Int) % 8 + ((a : Int) + (b : Int)) - (p : Int) < 8 := by omega
        have hX2 : 8 ≤ (p : Int) % 8 + ((a : Int) + (b : Int)) - (p : Int) := by omega
        have HXe := Lib.hid (show 8 ≤ p % 8 + (a + b - p) by omega)
        have HT := Lib.hid (show clrTo p (a + b) = 8 by unfold clrTo; have := HXe.out; omega)
        have htb : 8 ≤ 8 ∧ p % 8 < 8 := by have := HXe.out; omega
        have hfr : p % 8 ≤ 8 := by omega
        have hA := pow_b htb.1
        have hB := pow_b hfr
        have HA := Lib.hid (rfl : (2 : Int) ^ (8) = (2 : Int) ^ (8))
        obtain ⟨A, hAe⟩ : ∃ A : Int, A = (2 : Int) ^ (8) := ⟨_, rfl⟩
        obtain ⟨B, hBe⟩ : ∃ B : Int, B = (2 : Int) ^ (p % 8) := ⟨_, rfl⟩
        rw [← hAe] at hA
        rw [← hBe] at hB
        have HAe := Lib.hid hAe
        have HBe := Lib.hid hBe
        clear hAe hBe HA
        obtain ⟨hA1, hA2⟩ := hA
        obtain ⟨hB1, hB2⟩ := hB
        go_wp2_with fail
        refine wp_region_qs (fun j w' => j ≤ 0 → w'.cell? ⟨mi, 1 + p / 8 * 34 + 33, none⟩ = some (.int .i64 (g (p / 8)).mask)) [(0, some 0), (1, some 0), (2, some 0), (3, some 0), (4, some 0), (5, some 0), (6, some 0), (7, some 0), (8, some 0), (9, some 0), (10, some 1), (11, some 0), (12, none)] (by kernel_rfl) (by kernel_rfl) (by kernel_rfl) (by kernel_rfl) (by kernel_rfl) (fun _ _ _ _ _ h => h) (fun _ => CM.out) ?_
        simp only [List.map_cons, List.map_nil, List.getD_cons_succ, List.getD_cons_zero]
        have cmx := CM.out
        have cf := M1.out.blk.drew.free (1 + p / 8 * 34 + 33)
        (repeat (first | ((first | (refine qs_mid (v := .int .i64 (g (p / 8)).mask) (by rfl) ?_ ?_; rotate_left 1; (· (intro j w' h1 h2 hS; have hS2 := hS h2; clear hS; go_simp; done))) | (refine qs_mid (v := .int .i64 B) (by rfl) (fun j w' _ _ _ => by rw [HBe.out]; exact shl_run rfl (y := .tmp 66) rfl (t := p % 8) (by omega) (by omega) w') ?_) | (refine qs_mid (v := .int .i64 A) (by rfl) (fun j w' _ _ _ => by rw [HAe.out]; exact shl_run rfl (y := .tmp 64) rfl (t := 8) (by have := HXe.out; omega) (by omega) w') ?_) | (refine qs_mid (v := .int .i64 (anM (g (p / 8)).mask (A - B))) (by rfl) (fun j w' _ _ _ => andNot_run rfl rfl rfl w') ?_)); simp only [Act.put, List.setIfInBounds_toArray, List.set_cons_zero, List.set_cons_succ]) | (refine qs_now (v := ?_) (by rfl) ?_ ?_; rotate_left 1; (· (intro w' hS; go_simp; (try (simp only [↓IntWalk.iteOmega]; go_simp)); (try simp (disch := omega) only [IntWalk.i64_in]); try with_reducible rfl)); simp only [Act.put, List.setIfInBounds_toArray, List.set_cons_zero, List.set_cons_succ]) | (refine qs_run (v := ?_) (by rfl) ?_ ?_; rotate_left 1; (· (intro j w' hS; go_simp; (try (simp only [↓IntWalk.iteOmega]; go_simp)); (try simp (disch := omega) only [IntWalk.i64_in]); try with_reducible rfl)); simp only [Act.put, List.setIfInBounds_toArray, List.set_cons_zero, List.set_cons_succ]) | (refine qs_mid (v := ?_) (by rfl) ?_ ?_; rotate_left 1; (· (intro j w' hj1 hj2 hS; go_simp; (try (simp only [↓IntWalk.iteOmega]; go_simp)); (try simp (disch := omega) only [IntWalk.i64_in]); try with_reducible rfl)); simp only [Act.put, List.setIfInBounds_toArray, List.set_cons_zero, List.set_cons_succ]) | (refine qs_skip (by rfl) ?_; simp only [Act.put, List.setIfInBounds_toArray, List.set_cons_zero, List.set_cons_succ])))
        refine qs_act ?_
        obtain ⟨v, hv⟩ : ∃ v, v = anM (g (p / 8)).mask (A - B) := ⟨_, rfl⟩
        rw [← hv]
        have HV := Lib.hid (show v = anM (g (p / 8)).mask ((2 : Int) ^ (8) - (2 : Int) ^ (p % 8)) by rw [hv, HAe.out, HBe.out])
        clear hv
        go_wp2_with fail
        refine ⟨fun h => absurd h (by omega), ?_⟩
        refine qs_nil ?_
        obtain ⟨w2, hw2⟩ : ∃ w2, w2 = (wr.setCell ⟨mi, 1 + p / 8 * 34 + 33, none⟩ (.int .i64 v)).drew := ⟨_, rfl⟩
        have K2 := (M1.out.blk.put (1 + p / 8 * 34 + 33) (.int .i64 v)).drew
        rw [mapsC_mask n g bs (p / 8) hp8 v, ← hw2] at K2
        have G2 : wr.grownBy w2 (some mi) := by
          have := grown_put wr ⟨mi, 1 + p / 8 * 34 + 33, none⟩ (.int .i64 v)
          rw [hw2]
          exact ⟨this.os, this.tape, this.output, this.size, this.block⟩
        have M2 := Lib.hid (M1.out.set K2 G2)
        have T2 := Lib.hid (T1.out.trans (Tch.grown G2 (fun k hk => by injection hk with hk; subst hk; exact .inl (by simp))))
        rw [← hw2]
        clear hw2 K2 G2 cmx cf
        have cm2 : w2.cell? ⟨mi, 1 + p / 8 * 34 + 33, none⟩ = some (.int .i64 v) := M2.out.blk.cell (by rw [mapsC_cell n _ bs (p / 8) 33 hp8 (by omega), upd_at]; exact slC_mask _)
        by_cases hv0 : v = 0
        · rw [hv0] at cm2
          have HV0 := Lib.hid hv0
          clear hv0
          go_wp2_with (first
            | ((with_reducible show wpList _ _ _ (_ :: _) _ _); refine wpl_mk rfl 54 #[] rfl [] rfl _ built_zSl ?_)
            | ((with_reducible show wpList _ _ _ (_ :: _) _ _); refine wpl_put rfl 54 (.tmp 79) (.tmp 78) rfl mi (1 + p / 8 * 34) (slC zSl) rfl rfl _ _ M2.out.blk (slC_info zSl) (by rw [List.size_toArray, mapsC_len, slC_len]; omega) (slC_one zSl) ?_; intro w3 hk hg hz; have K3 := Lib.hid hk; have G3 := Lib.hid hg; clear hk hg hz))
          go_roundg (a + b - (p + (8 - p % 8)))
          case measure => have := HXe.out; omega
          case rel =>
            have K := K3.out
            rw [mapsC_put n _ bs (p / 8) hp8, upd_twice] at K
            have := clr_step F1.out hp p2 HT.out htb HV.out
            rw [if_pos HV0.out] at this
            exact ⟨p + (8 - p % 8), _, by have := HXe.out; congr 1; omega, by have := HXe.out; omega, by have := HXe.out; omega, by have := HXe.out; omega, M2.out.set K G3.out, this, T2.out.trans (Tch.grown G3.out (fun k hk => by injection hk with hk; subst hk; exact .inl (by simp)))⟩
        · have ev : (v == 0) = false := beq_eq_false_iff_ne.2 hv0
          go_wp2_with fail
          go_roundg (a + b - (p + (8 - p % 8)))
          case measure => have := HXe.out; omega
          case rel =>
            have := clr_step F1.out hp p2 HT.out htb HV.out
            rw [if_neg hv0] at this
            exact ⟨p + (8 - p % 8), _, by have := HXe.out; congr 1; omega, by have := HXe.out; omega, by have := HXe.out; omega, by have := HXe.out; omega, M2.out, this, T2.out⟩
    · have hpI : ¬ (p : Int) < (a : Int) + (b : Int) := by omega
      go_wp2_with fail
      go_ret
      unfold ClrPost
      rw [HE.out, ← HF2.out, ← F1.out, clrGo_done _ _ _ _ (by omega)]
      exact ⟨rfl, M1.out, T1.out⟩
end Go.Proofs.YtgjjdfhoakailaaGreat
