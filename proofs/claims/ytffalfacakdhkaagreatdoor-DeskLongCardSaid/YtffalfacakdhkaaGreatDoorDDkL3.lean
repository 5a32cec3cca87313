/-
  what this claim needs of: DkL3, DkL4, DkL5 (written by cut.py).
-/
import Derived.Test.YtffalfacakdhkaaGreatDoorDDkI6
import Derived.Test.YtffalfacakdhkaaGreatDoorDDkC6
namespace Go.Proofs.YtffalfacakdhkaaGreatDoor
open Go.RowKit Go.Maps Go.Shelf
set_option linter.unusedVariables false
set_option linter.unusedSimpArgs false
theorem tb_sl (e sn : Int) : ∀ z ∈ (taleE e sn).sl, i64b z := fun z hz => by cases hz
theorem tb_nums (e sn : Int) : ∀ z ∈ (taleE e sn).nums, i64b z := fun z hz => by
 have : z = 0 := by simpa [TaleN.nums, taleE] using hz
 subst this
 exact i64b_small _ (by omega)
section
variable {w0 W : World} {db : Nat} {v p : Value} {out : List UInt8} {dp xp : Value} {n : Int}
theorem lnEnd_ok {E : Value → World → Prop} {E' : Value → Value → Value → World → Prop} {o : List UInt8} {dp' xp' : Value} {W1 w' : World} (h : WrtB E w0 db (out ++ o) dp' xp' n W1 w') (hb : Below W.heap.size W W1) (hE : ∀ v w, E v w → E' dp' xp' v w) : LnEnd w0 db out o n E' W 0 w' := by
 obtain ⟨v', p', h1, h2, h3⟩ := h
 exact ⟨v', p', dp', xp', hE _ _ h2, (KpL.below hb).trans h3, .inl ⟨rfl, h1⟩⟩
theorem lnEnd_bad {E : Value → World → Prop} {E' : Value → Value → Value → World → Prop} (hE : EnvOk E) {o : List UInt8} {w' : World} (h : DkA w0 W db v p out dp xp n) (he : E v W) (hb : Below W.heap.size W w') (hEE : ∀ v w, E v w → E' dp xp v w) (ho : o = wrongL 310 n) : LnEnd w0 db out o n E' W 310 w' :=
 ⟨v, p, dp, xp, hEE _ _ (hE.below he hb), KpL.below hb, .inr ⟨by omega, by omega, ho, h.below hb⟩⟩
/-- A line with a step. -/
theorem ln_do {E1 : Value → World → Prop} {E' : Value → Value → Value → World → Prop} (hE1 : EnvOk E1) (ht : LnT w0) (hl : out.length ≤ 80000000) (h : DkA w0 W db v p out dp xp n)
  (L a : List UInt8) (asL : List (List UInt8)) (hL : L.length ≤ 1000) (hw : wordsL L = a :: asL) (has : asL.length ≤ 100) (hno : ∀ q ∈ nmM, q.1 ≠ a) (y : StepV) (hy : stepL L = some y) (hkd : 0 ≤ y.kind ∧ y.kind < 256)
  (f : FuncId) (cl : Nat → Nat → Nat → List Nat) (hget : ∀ b2 b3 b4, aget (stepM b2 b3 b4) y.kind = some (f, cl b2 b3 b4)) (fn : Func) (code : Code) (hf : Tryz.prog.funcs[f]? = some fn) (hname : (fn.name == "runtime.NumGoroutine") = false) (hb : fn.body = some code)
  (xp' : Value) (t : TaleN) (hs : ∀ z ∈ t.sl, i64b z) (he : i64b t.e) (hsn : i64b t.sn) (hnum : ∀ z ∈ t.nums, i64b z) (hsl : t.sl.length ≤ 1000) (TT : List UInt8) (hT : tellL t.e t.sn t.nums t.sl [] = TT) (hTl : TT.length ≤ 1000) (o : List UInt8) (ho : o = TT ++ [10])
  (hEE : ∀ v w, E1 v w → E' dp xp' v w)
  (hcall : ∀ (W1 : World) (b2 b3 b4 : Nat) (SB A : Option Addr) (nb c c' : Nat), Below W.heap.size W W1 → DkA w0 W1 db v p out dp xp n → w0.heap.size ≤ b4 → Blk W1 b2 30 #[.pointer (some ⟨db, 0, none⟩)] → Blk W1 b3 61 (stepVs y (.slice SB nb c) (.slice A y.fates.length c')) → Blk W1 b4 70 taleZ →
   Calls Tryz.prog f ((cl b2 b3 b4).map (fun b => Value.pointer (some ⟨b, 0, none⟩))).toArray W1 fun e w' => (∃ r, e = .returned r) ∧ ∃ T, ClP E1 w0 W1 db v p out dp xp' n b4 t T w') :
  Calls Tryz.prog 15 #[.pointer (some ⟨db, 0, none⟩), .string ⟨L.toArray⟩] W fun e w' => ∃ r, e = .returned (.int .i64 r) ∧ LnEnd w0 db out o n E' W r w' := by
 refine ln_step (ht.below h.low) L hL a asL hw has hno (fun r w' => LnEnd w0 db out o n E' W r w') (fun T w' => StpP E1 w0 W db v p out dp xp' n t T w') (fun hn => by rw [hy] at hn; cases hn) ?_ ?_
 ·intro y' hy' W1 A c A' c' hB
  rw [hy] at hy'
  injection hy' with hy'
  subst hy'
  refine (dsk_do hE1 (show w0.heap.size ≤ W1.heap.size from Nat.le_trans h.low.size hB.size) t y _ _ hkd f cl hget fn code hf hname hb (fun W2 b2 b3 b4 k1 k2 k3 k4 k5 => hcall W2 b2 b3 b4 A A' y.bytes.length c c' (below_chain hB k1) (h.below (below_chain hB k1)) (by have := h.low.size; have := hB.size; omega) k3 k4 k5)).mono ?_
  rintro e w' ⟨T, rfl, hS⟩
  exact ⟨T, rfl, ⟨hS.tal, hS.dk, hS.env, (KpL.below hB).trans hS.kp⟩⟩
 ·intro T W1 hS
  refine (dsk_step_tell hE1 ht hl hS hs he hsn hnum hsl TT hT hTl).mono ?_
  rintro e w' ⟨rfl, v', p', h1, h2, h3⟩
  exact ⟨rfl, v', p', dp, xp', hEE _ _ h2, h3, .inl ⟨rfl, by rw [ho]; exact h1⟩⟩
/-- A line that says no step. -/
theorem ln_none {E1 : Value → World → Prop} {E' : Value → Value → Value → World → Prop} (hE1 : EnvOk E1) (ht : LnT w0) (h : DkA w0 W db v p out dp xp n) (he : E1 v W)
  (L a : List UInt8) (asL : List (List UInt8)) (hL : L.length ≤ 1000) (hw : wordsL L = a :: asL) (has : asL.length ≤ 100) (hno : ∀ q ∈ nmM, q.1 ≠ a) (hy : stepL L = none) (o : List UInt8) (ho : o = wrongL 310 n) (hEE : ∀ v w, E1 v w → E' dp xp v w) :
  Calls Tryz.prog 15 #[.pointer (some ⟨db, 0, none⟩), .string ⟨L.toArray⟩] W fun e w' => ∃ r, e = .returned (.int .i64 r) ∧ LnEnd w0 db out o n E' W r w' := by
 refine ln_step (ht.below h.low) L hL a asL hw has hno (fun r w' => LnEnd w0 db out o n E' W r w') (fun _ _ => False) (fun _ w' hB => lnEnd_bad hE1 h he hB hEE ho) (fun y hy' => by rw [hy] at hy'; cases hy') (fun _ _ hF => hF.elim)
/-- A command whose words are no numbers. -/
theorem ln_nan {E1 : Value → World → Prop} {E' : Value → Value → Value → World → Prop} (hE1 : EnvOk E1) (ht : LnT w0) (h : DkA w0 W db v p out dp xp n) (he : E1 v W)
  (L a : List UInt8) (asL : List (List UInt8)) (hL : L.length ≤ 1000) (hw : wordsL L = a :: asL) (has : asL.length ≤ 100) (hal : ∀ x ∈ asL, x.length ≤ 1000) (f : Nat) (hf : (a, f) ∈ nmM) (fn : Func) (code : Code) (hf1 : Tryz.prog.funcs[f]? = some fn) (hname : (fn.name == "runtime.NumGoroutine") = false) (hfb : fn.body = some code)
  (hz : numsL asL = none) (o : List UInt8) (ho : o = wrongL 310 n) (hEE : ∀ v w, E1 v w → E' dp xp v w) :
  Calls Tryz.prog 15 #[.pointer (some ⟨db, 0, none⟩), .string ⟨L.toArray⟩] W fun e w' => ∃ r, e = .returned (.int .i64 r) ∧ LnEnd w0 db out o n E' W r w' :=
 ln_cmd (ht.below h.low) L hL a asL hw has hal f hf fn code hf1 hname hfb (fun r w' => LnEnd w0 db out o n E' W r w') (fun _ w' hB => lnEnd_bad hE1 h he hB hEE ho) (fun zs h => by rw [hz] at h; cases h)
/-- A command that refuses its numbers. -/
theorem ln_ref {E1 : Value → World → Prop} {E' : Value → Value → Value → World → Prop} (hE1 : EnvOk E1) (ht : LnT w0) (h : DkA w0 W db v p out dp xp n) (he : E1 v W)
  (L a : List UInt8) (asL : List (List UInt8)) (hL : L.length ≤ 1000) (hw : wordsL L = a :: asL) (has : asL.length ≤ 100) (hal : ∀ x ∈ asL, x.length ≤ 1000) (f : Nat) (hf : (a, f) ∈ nmM) (fn : Func) (code : Code) (hf1 : Tryz.prog.funcs[f]? = some fn) (hname : (fn.name == "runtime.NumGoroutine") = false) (hfb : fn.body = some code)
  (zs : List Int) (hz : numsL asL = some zs) (o : List UInt8) (ho : o = wrongL 310 n) (hEE : ∀ v w, E1 v w → E' dp xp v w)
  (hcall : ∀ (W1 : World) (A : Option Addr) (B c : Nat), W1.ownsRow B 3 1 (.slice A zs.length c) zs.length (zs.map (Value.int .i64)) → Calls Tryz.prog f #[.pointer (some ⟨db, 0, none⟩), .slice A zs.length c] W1 fun e w' => e = .returned (.int .i64 310) ∧ w' = W1) :
  Calls Tryz.prog 15 #[.pointer (some ⟨db, 0, none⟩), .string ⟨L.toArray⟩] W fun e w' => ∃ r, e = .returned (.int .i64 r) ∧ LnEnd w0 db out o n E' W r w' :=
 ln_cmd (ht.below h.low) L hL a asL hw has hal f hf fn code hf1 hname hfb (fun r w' => LnEnd w0 db out o n E' W r w') (fun h => by rw [hz] at h; cases h) (fun zs' hz' W1 A B c hB ho' => by
  rw [hz] at hz'
  injection hz' with hz'
  subst hz'
  refine (hcall W1 A B c ho').mono ?_
  rintro e w' ⟨rfl, rfl⟩
  exact ⟨310, rfl, lnEnd_bad hE1 h he hB hEE ho⟩)
/-- A command that tells. -/
theorem ln_tell {E' : Value → Value → Value → World → Prop} (ht : LnT w0) (h : DkA w0 W db v p out dp xp n)
  (L a : List UInt8) (asL : List (List UInt8)) (hL : L.length ≤ 1000) (hw : wordsL L = a :: asL) (has : asL.length ≤ 100) (hal : ∀ x ∈ asL, x.length ≤ 1000) (f : Nat) (hf : (a, f) ∈ nmM) (fn : Func) (code : Code) (hf1 : Tryz.prog.funcs[f]? = some fn) (hname : (fn.name == "runtime.NumGoroutine") = false) (hfb : fn.body = some code)
  (zs : List Int) (hz : numsL asL = some zs) (o : List UInt8)
  (hcall : ∀ (W1 : World) (A : Option Addr) (B c : Nat), Below W.heap.size W W1 → W1.ownsRow B 3 1 (.slice A zs.length c) zs.length (zs.map (Value.int .i64)) → Calls Tryz.prog f #[.pointer (some ⟨db, 0, none⟩), .slice A zs.length c] W1 fun e w' => e = .returned (.int .i64 0) ∧ LnEnd w0 db out o n E' W 0 w') :
  Calls Tryz.prog 15 #[.pointer (some ⟨db, 0, none⟩), .string ⟨L.toArray⟩] W fun e w' => ∃ r, e = .returned (.int .i64 r) ∧ LnEnd w0 db out o n E' W r w' :=
 ln_cmd (ht.below h.low) L hL a asL hw has hal f hf fn code hf1 hname hfb (fun r w' => LnEnd w0 db out o n E' W r w') (fun h => by rw [hz] at h; cases h) (fun zs' hz' W1 A B c hB ho' => by
  rw [hz] at hz'
  injection hz' with hz'
  subst hz'
  refine (hcall W1 A B c hB ho').mono ?_
  rintro e w' ⟨rfl, h⟩
  exact ⟨0, rfl, h⟩)
end
end Go.Proofs.YtffalfacakdhkaaGreatDoor
namespace Go.Proofs.YtffalfacakdhkaaGreatDoor
open Go.RowKit Go.Maps Go.Shelf
set_option linter.unusedVariables false
set_option linter.unusedSimpArgs false
/-- What stands beside the builder ahead of each line. -/
def nmE (w0 : World) : Nat → Value → Value → Value → World → Prop
 | 0 => fun _ _ _ _ => True
 | 1 => fun _ _ _ _ => True
 | 12 => fun dp xp v W => xp = .pointer none ∧ ∃ d sb ob, dp = .pointer (some ⟨d, 0, none⟩) ∧ EArm w0 4096 d sb ob 1 v W
 | 13 => fun _ xp _ _ => xp = .pointer none
 | 14 => fun _ _ _ _ => True
 | _ => fun dp xp v W => xp = .pointer none ∧ ∃ d sb ob, dp = .pointer (some ⟨d, 0, none⟩) ∧ EDev w0 4096 d sb ob v W
theorem EnvOk.true2 (P : Prop) : EnvOk (fun _ _ => P) := ⟨fun h _ => h, fun h _ _ => h, fun h _ _ _ _ => h⟩
theorem nmE_dev (w0 : World) (dp xp : Value) : EnvOk (fun v W => xp = .pointer none ∧ ∃ d sb ob, dp = .pointer (some ⟨d, 0, none⟩) ∧ EDev w0 4096 d sb ob v W) := EnvOk.and (EnvOk.ex fun d => EnvOk.ex fun sb => EnvOk.ex fun ob => EnvOk.and (EDev.ok w0 4096 d sb ob))
theorem nmE_arm (w0 : World) (dp xp : Value) : EnvOk (fun v W => xp = .pointer none ∧ ∃ d sb ob, dp = .pointer (some ⟨d, 0, none⟩) ∧ EArm w0 4096 d sb ob 1 v W) := EnvOk.and (EnvOk.ex fun d => EnvOk.ex fun sb => EnvOk.ex fun ob => EnvOk.and (EArm.ok w0 4096 d sb ob 1))
theorem nmE_ok (w0 : World) (k : Nat) (dp xp : Value) : EnvOk (nmE w0 k dp xp) := by
 unfold nmE
 split
 ·exact EnvOk.true2 _
 ·exact EnvOk.true2 _
 ·exact nmE_arm w0 dp xp
 ·exact EnvOk.true2 _
 ·exact EnvOk.true2 _
 ·exact nmE_dev w0 dp xp
theorem nm_0 {w0 : World} (ht : LnT w0) (W : World) (db : Nat) (v p dp xp : Value) (h : DkA w0 W db v p (outOf nmOs 0) dp xp (((0 : Nat) : Int) + 1)) (he : nmE w0 0 dp xp v W) : Calls Tryz.prog 15 #[.pointer (some ⟨db, 0, none⟩), .string ⟨(nmLs.getD 0 []).toArray⟩] W fun e w' => ∃ r, e = .returned (.int .i64 r) ∧ LnEnd w0 db (outOf nmOs 0) (nmOs.getD 0 []) (((0 : Nat) : Int) + 1) (nmE w0 1) W r w' := by
 have hol : (outOf nmOs 0).length ≤ 1000 := by decide
 generalize outOf nmOs 0 = O at h hol ⊢
 refine ln_tell ht h [100, 105, 115, 107, 32, 49] [100, 105, 115, 107] [[49]] (by decide) w_disk_1 (by decide) (by decide) 20 (by decide) _ _ Tryz.func20 (by kernel_rfl) rfl [1] n_disk_1 _ ?_
 intro W1 A B c hB hO
 refine (dsk_disk_ok ht (h.below hB) (by omega) 1 (by omega) hO).mono ?_
 rintro e w' ⟨rfl, d, sb, ob, hw⟩
 exact ⟨rfl, lnEnd_ok hw hB (fun v w hv => trivial)⟩
theorem nm_1 {w0 : World} (ht : LnT w0) (W : World) (db : Nat) (v p dp xp : Value) (h : DkA w0 W db v p (outOf nmOs 1) dp xp (((1 : Nat) : Int) + 1)) (he : nmE w0 1 dp xp v W) : Calls Tryz.prog 15 #[.pointer (some ⟨db, 0, none⟩), .string ⟨(nmLs.getD 1 []).toArray⟩] W fun e w' => ∃ r, e = .returned (.int .i64 r) ∧ LnEnd w0 db (outOf nmOs 1) (nmOs.getD 1 []) (((1 : Nat) : Int) + 1) (nmE w0 2) W r w' := by
 have hol : (outOf nmOs 1).length ≤ 1000 := by decide
 generalize outOf nmOs 1 = O at h hol ⊢
 refine ln_tell ht h [100, 105, 115, 107, 32, 52, 48, 57, 54] [100, 105, 115, 107] [[52, 48, 57, 54]] (by decide) w_disk_4096 (by decide) (by decide) 20 (by decide) _ _ Tryz.func20 (by kernel_rfl) rfl [4096] n_disk_4096 _ ?_
 intro W1 A B c hB hO
 refine (dsk_disk_ok ht (h.below hB) (by omega) 4096 (by omega) hO).mono ?_
 rintro e w' ⟨rfl, d, sb, ob, hw⟩
 exact ⟨rfl, lnEnd_ok hw hB (fun v w hv => ⟨rfl, d, sb, ob, rfl, hv⟩)⟩
theorem nm_2 {w0 : World} (ht : LnT w0) (W : World) (db : Nat) (v p dp xp : Value) (h : DkA w0 W db v p (outOf nmOs 2) dp xp (((2 : Nat) : Int) + 1)) (he : nmE w0 2 dp xp v W) : Calls Tryz.prog 15 #[.pointer (some ⟨db, 0, none⟩), .string ⟨(nmLs.getD 2 []).toArray⟩] W fun e w' => ∃ r, e = .returned (.int .i64 r) ∧ LnEnd w0 db (outOf nmOs 2) (nmOs.getD 2 []) (((2 : Nat) : Int) + 1) (nmE w0 3) W r w' := by
 have hol : (outOf nmOs 2).length ≤ 1000 := by decide
 generalize outOf nmOs 2 = O at h hol ⊢
 exact ln_ref (nmE_ok w0 2 dp xp) ht h he [100, 105, 115, 107, 32, 48] [100, 105, 115, 107] [[48]] (by decide) w_disk_0 (by decide) (by decide) 20 (by decide) _ _ Tryz.func20 (by kernel_rfl) rfl [0] n_disk_0 _ wr_310_3.symm (fun v w hv => hv) (fun W1 A B c hO => dsk_disk_range (0) (by omega) hO)
theorem nm_3 {w0 : World} (ht : LnT w0) (W : World) (db : Nat) (v p dp xp : Value) (h : DkA w0 W db v p (outOf nmOs 3) dp xp (((3 : Nat) : Int) + 1)) (he : nmE w0 3 dp xp v W) : Calls Tryz.prog 15 #[.pointer (some ⟨db, 0, none⟩), .string ⟨(nmLs.getD 3 []).toArray⟩] W fun e w' => ∃ r, e = .returned (.int .i64 r) ∧ LnEnd w0 db (outOf nmOs 3) (nmOs.getD 3 []) (((3 : Nat) : Int) + 1) (nmE w0 4) W r w' := by
 have hol : (outOf nmOs 3).length ≤ 1000 := by decide
 generalize outOf nmOs 3 = O at h hol ⊢
 exact ln_ref (nmE_ok w0 3 dp xp) ht h he [100, 105, 115, 107, 32, 52, 48, 57, 55] [100, 105, 115, 107] [[52, 48, 57, 55]] (by decide) w_disk_4097 (by decide) (by decide) 20 (by decide) _ _ Tryz.func20 (by kernel_rfl) rfl [4097] n_disk_4097 _ wr_310_4.symm (fun v w hv => hv) (fun W1 A B c hO => dsk_disk_range (4097) (by omega) hO)
theorem nm_4 {w0 : World} (ht : LnT w0) (W : World) (db : Nat) (v p dp xp : Value) (h : DkA w0 W db v p (outOf nmOs 4) dp xp (((4 : Nat) : Int) + 1)) (he : nmE w0 4 dp xp v W) : Calls Tryz.prog 15 #[.pointer (some ⟨db, 0, none⟩), .string ⟨(nmLs.getD 4 []).toArray⟩] W fun e w' => ∃ r, e = .returned (.int .i64 r) ∧ LnEnd w0 db (outOf nmOs 4) (nmOs.getD 4 []) (((4 : Nat) : Int) + 1) (nmE w0 5) W r w' := by
 have hol : (outOf nmOs 4).length ≤ 1000 := by decide
 generalize outOf nmOs 4 = O at h hol ⊢
 exact ln_ref (nmE_ok w0 4 dp xp) ht h he [100, 105, 115, 107, 32, 45, 49] [100, 105, 115, 107] [[45, 49]] (by decide) w_disk_m1 (by decide) (by decide) 20 (by decide) _ _ Tryz.func20 (by kernel_rfl) rfl [(-1)] n_disk_m1 _ wr_310_5.symm (fun v w hv => hv) (fun W1 A B c hO => dsk_disk_range (-1) (by omega) hO)
theorem nm_5 {w0 : World} (ht : LnT w0) (W : World) (db : Nat) (v p dp xp : Value) (h : DkA w0 W db v p (outOf nmOs 5) dp xp (((5 : Nat) : Int) + 1)) (he : nmE w0 5 dp xp v W) : Calls Tryz.prog 15 #[.pointer (some ⟨db, 0, none⟩), .string ⟨(nmLs.getD 5 []).toArray⟩] W fun e w' => ∃ r, e = .returned (.int .i64 r) ∧ LnEnd w0 db (outOf nmOs 5) (nmOs.getD 5 []) (((5 : Nat) : Int) + 1) (nmE w0 6) W r w' := by
 have hol : (outOf nmOs 5).length ≤ 1000 := by decide
 generalize outOf nmOs 5 = O at h hol ⊢
 exact ln_nan (nmE_ok w0 5 dp xp) ht h he [100, 105, 115, 107, 32, 48, 49] [100, 105, 115, 107] [[48, 49]] (by decide) w_disk_01 (by decide) (by decide) 20 (by decide) _ _ Tryz.func20 (by kernel_rfl) rfl n_disk_01 _ wr_310_6.symm (fun v w hv => hv)
theorem nm_6 {w0 : World} (ht : LnT w0) (W : World) (db : Nat) (v p dp xp : Value) (h : DkA w0 W db v p (outOf nmOs 6) dp xp (((6 : Nat) : Int) + 1)) (he : nmE w0 6 dp xp v W) : Calls Tryz.prog 15 #[.pointer (some ⟨db, 0, none⟩), .string ⟨(nmLs.getD 6 []).toArray⟩] W fun e w' => ∃ r, e = .returned (.int .i64 r) ∧ LnEnd w0 db (outOf nmOs 6) (nmOs.getD 6 []) (((6 : Nat) : Int) + 1) (nmE w0 7) W r w' := by
 have hol : (outOf nmOs 6).length ≤ 1000 := by decide
 generalize outOf nmOs 6 = O at h hol ⊢
 exact ln_ref (nmE_ok w0 6 dp xp) ht h he [100, 105, 115, 107] [100, 105, 115, 107] [] (by decide) w_disk (by decide) (by decide) 20 (by decide) _ _ Tryz.func20 (by kernel_rfl) rfl [] n_disk _ wr_310_7.symm (fun v w hv => hv) (fun W1 A B c hO => dsk_disk_cnt A 0 c (by omega) (by omega))
theorem nm_7 {w0 : World} (ht : LnT w0) (W : World) (db : Nat) (v p dp xp : Value) (h : DkA w0 W db v p (outOf nmOs 7) dp xp (((7 : Nat) : Int) + 1)) (he : nmE w0 7 dp xp v W) : Calls Tryz.prog 15 #[.pointer (some ⟨db, 0, none⟩), .string ⟨(nmLs.getD 7 []).toArray⟩] W fun e w' => ∃ r, e = .returned (.int .i64 r) ∧ LnEnd w0 db (outOf nmOs 7) (nmOs.getD 7 []) (((7 : Nat) : Int) + 1) (nmE w0 8) W r w' := by
 have hol : (outOf nmOs 7).length ≤ 1000 := by decide
 generalize outOf nmOs 7 = O at h hol ⊢
 exact ln_ref (nmE_ok w0 7 dp xp) ht h he [100, 105, 115, 107, 32, 49, 32, 49] [100, 105, 115, 107] [[49], [49]] (by decide) w_disk_1_1 (by decide) (by decide) 20 (by decide) _ _ Tryz.func20 (by kernel_rfl) rfl [1, 1] n_disk_1_1 _ wr_310_8.symm (fun v w hv => hv) (fun W1 A B c hO => dsk_disk_cnt A 2 c (by omega) (by omega))
theorem nm_8 {w0 : World} (ht : LnT w0) (W : World) (db : Nat) (v p dp xp : Value) (h : DkA w0 W db v p (outOf nmOs 8) dp xp (((8 : Nat) : Int) + 1)) (he : nmE w0 8 dp xp v W) : Calls Tryz.prog 15 #[.pointer (some ⟨db, 0, none⟩), .string ⟨(nmLs.getD 8 []).toArray⟩] W fun e w' => ∃ r, e = .returned (.int .i64 r) ∧ LnEnd w0 db (outOf nmOs 8) (nmOs.getD 8 []) (((8 : Nat) : Int) + 1) (nmE w0 9) W r w' := by
 have hol : (outOf nmOs 8).length ≤ 1000 := by decide
 generalize outOf nmOs 8 = O at h hol ⊢
 exact ln_ref (nmE_ok w0 8 dp xp) ht h he [111, 112, 101, 110, 32, 49] [111, 112, 101, 110] [[49]] (by decide) w_open_1 (by decide) (by decide) 22 (by decide) _ _ Tryz.func22 (by kernel_rfl) rfl [1] n_open_1 _ wr_310_9.symm (fun v w hv => hv) (fun W1 A B c hO => dsk_open_cnt A 1 c (by omega) (by omega))
theorem nm_9 {w0 : World} (ht : LnT w0) (W : World) (db : Nat) (v p dp xp : Value) (h : DkA w0 W db v p (outOf nmOs 9) dp xp (((9 : Nat) : Int) + 1)) (he : nmE w0 9 dp xp v W) : Calls Tryz.prog 15 #[.pointer (some ⟨db, 0, none⟩), .string ⟨(nmLs.getD 9 []).toArray⟩] W fun e w' => ∃ r, e = .returned (.int .i64 r) ∧ LnEnd w0 db (outOf nmOs 9) (nmOs.getD 9 []) (((9 : Nat) : Int) + 1) (nmE w0 10) W r w' := by
 have hol : (outOf nmOs 9).length ≤ 1000 := by decide
 generalize outOf nmOs 9 = O at h hol ⊢
 obtain ⟨rfl, he⟩ := he
 refine ln_tell ht h [99, 104, 101, 99, 107] [99, 104, 101, 99, 107] [] (by decide) w_check (by decide) (by decide) 23 (by decide) _ _ Tryz.func23 (by kernel_rfl) rfl [] n_check _ ?_
 intro W1 A B c hB hO
 have hE := (EnvOk.ex fun d => EnvOk.ex fun sb => EnvOk.ex fun ob => EnvOk.and (EDev.ok w0 4096 d sb ob) : EnvOk (fun v W => ∃ d sb ob, dp = .pointer (some ⟨d, 0, none⟩) ∧ EDev w0 4096 d sb ob v W))
 refine (dsk_check_nil hE ht (h.below hB) (hE.below he hB) (by omega) A c).mono ?_
 rintro e w' ⟨rfl, hw⟩
 exact ⟨rfl, lnEnd_ok hw hB (fun v w hv => ⟨rfl, hv⟩)⟩
theorem nm_11 {w0 : World} (ht : LnT w0) (W : World) (db : Nat) (v p dp xp : Value) (h : DkA w0 W db v p (outOf nmOs 11) dp xp (((11 : Nat) : Int) + 1)) (he : nmE w0 11 dp xp v W) : Calls Tryz.prog 15 #[.pointer (some ⟨db, 0, none⟩), .string ⟨(nmLs.getD 11 []).toArray⟩] W fun e w' => ∃ r, e = .returned (.int .i64 r) ∧ LnEnd w0 db (outOf nmOs 11) (nmOs.getD 11 []) (((11 : Nat) : Int) + 1) (nmE w0 12) W r w' := by
 have hol : (outOf nmOs 11).length ≤ 1000 := by decide
 generalize outOf nmOs 11 = O at h hol ⊢
 obtain ⟨rfl, d, sb, ob, rfl, he⟩ := he
 refine ln_do (EArm.ok w0 4096 d sb ob 1) ht (by omega) h [97, 114, 109, 32, 49] [97, 114, 109] [[49]] (by decide) w_arm_1 (by decide) (by decide) ⟨11, 0, 1, 0, [], []⟩ st_arm (by decide) 61 (fun b2 b3 b4 => [b2, b3]) (fun _ _ _ => rfl) _ _ Tryz.func61 (by kernel_rfl) rfl (.pointer none) (taleE 0 0) (tb_sl _ _) (i64b_small _ (by decide)) (i64b_small _ (by decide)) (tb_nums _ _) (by decide) _ t_ok (by decide) _ rfl (fun v w hv => ⟨rfl, d, sb, ob, rfl, hv⟩) ?_
 intro W1 b2 b3 b4 SB A nb c c' hB hD h4 k2 k3 k4
 exact cl_arm 1 hD ((EArm.ok w0 4096 d sb ob 0).below ⟨he.1, DvA.of he.2⟩ hB) (by omega) _ _ _ rfl k2 k3 k4 h4
theorem nm_12 {w0 : World} (ht : LnT w0) (W : World) (db : Nat) (v p dp xp : Value) (h : DkA w0 W db v p (outOf nmOs 12) dp xp (((12 : Nat) : Int) + 1)) (he : nmE w0 12 dp xp v W) : Calls Tryz.prog 15 #[.pointer (some ⟨db, 0, none⟩), .string ⟨(nmLs.getD 12 []).toArray⟩] W fun e w' => ∃ r, e = .returned (.int .i64 r) ∧ LnEnd w0 db (outOf nmOs 12) (nmOs.getD 12 []) (((12 : Nat) : Int) + 1) (nmE w0 13) W r w' := by
 have hol : (outOf nmOs 12).length ≤ 1000 := by decide
 generalize outOf nmOs 12 = O at h hol ⊢
 obtain ⟨rfl, d, sb, ob, rfl, he⟩ := he
 refine ln_do EnvOk.none ht (by omega) h [99, 114, 97, 115, 104] [99, 114, 97, 115, 104] [] (by decide) w_crash (by decide) (by decide) ⟨10, 0, 0, 0, [], []⟩ st_crash (by decide) 63 (fun b2 b3 b4 => [b2, b3]) (fun _ _ _ => rfl) _ _ Tryz.func63 (by kernel_rfl) rfl (.pointer none) (taleE 0 0) (tb_sl _ _) (i64b_small _ (by decide)) (i64b_small _ (by decide)) (tb_nums _ _) (by decide) _ t_ok (by decide) _ rfl (fun v w hv => rfl) ?_
 intro W1 b2 b3 b4 SB A nb c c' hB hD h4 k2 k3 k4
 exact cl_crash hD ((EArm.ok w0 4096 d sb ob 1).below he hB) _ _ A c' k2 k3 k4 h4
theorem nm_13 {w0 : World} (ht : LnT w0) (W : World) (db : Nat) (v p dp xp : Value) (h : DkA w0 W db v p (outOf nmOs 13) dp xp (((13 : Nat) : Int) + 1)) (he : nmE w0 13 dp xp v W) : Calls Tryz.prog 15 #[.pointer (some ⟨db, 0, none⟩), .string ⟨(nmLs.getD 13 []).toArray⟩] W fun e w' => ∃ r, e = .returned (.int .i64 r) ∧ LnEnd w0 db (outOf nmOs 13) (nmOs.getD 13 []) (((13 : Nat) : Int) + 1) (nmE w0 14) W r w' := by
 have hol : (outOf nmOs 13).length ≤ 1000 := by decide
 generalize outOf nmOs 13 = O at h hol ⊢
 obtain rfl := he
 refine ln_do EnvOk.none ht (by omega) h [102, 108, 117, 115, 104] [102, 108, 117, 115, 104] [] (by decide) w_flush (by decide) (by decide) ⟨4, 0, 0, 0, [], []⟩ st_flush (by decide) 47 (fun b2 b3 b4 => [b2, b4]) (fun _ _ _ => rfl) _ _ Tryz.func47 (by kernel_rfl) rfl (.pointer none) (taleE 1 0) (tb_sl _ _) (i64b_small _ (by decide)) (i64b_small _ (by decide)) (tb_nums _ _) (by decide) _ t_e1 (by decide) _ rfl (fun v w hv => trivial) ?_
 intro W1 b2 b3 b4 SB A nb c c' hB hD h4 k2 k3 k4
 exact cl_flush EnvOk.none hD trivial k2 k4 h4
theorem nm_lines {w0 : World} (ht : LnT w0) : ∀ k, k < nmLs.length → nmLs.getD k [] ≠ [] → ∀ (W1 : World) (db : Nat) (v p dp xp : Value), DkA w0 W1 db v p (outOf nmOs k) dp xp ((k : Int) + 1) → nmE w0 k dp xp v W1 → Calls Tryz.prog 15 #[.pointer (some ⟨db, 0, none⟩), .string ⟨(nmLs.getD k []).toArray⟩] W1 fun e w' => ∃ r, e = .returned (.int .i64 r) ∧ LnEnd w0 db (outOf nmOs k) (nmOs.getD k []) ((k : Int) + 1) (nmE w0 (k + 1)) W1 r w'
 | 0, _, _ => nm_0 ht
 | 1, _, _ => nm_1 ht
 | 2, _, _ => nm_2 ht
 | 3, _, _ => nm_3 ht
 | 4, _, _ => nm_4 ht
 | 5, _, _ => nm_5 ht
 | 6, _, _ => nm_6 ht
 | 7, _, _ => nm_7 ht
 | 8, _, _ => nm_8 ht
 | 9, _, _ => nm_9 ht
 | 10, _, h => absurd rfl h
 | 11, _, _ => nm_11 ht
 | 12, _, _ => nm_12 ht
 | 13, _, _ => nm_13 ht
 | k + 14, h, _ => absurd h (by show ¬ k + 14 < 14; omega)
theorem nm_run {w : World} (ht : LnT w) : Calls Tryz.prog 6 #[.string ⟨(joinN nmLs).toArray⟩] w fun e w' => e = .returned (.string ⟨(outOf nmOs 14).toArray⟩) ∧ Below w.heap.size w w' :=
 run_any ht (joinN nmLs) (by decide) nmLs nmOs rfl (by decide) (by decide) (by decide) (fun k => joinN_drop nmLs 2000000 (by decide) k) rfl (fun k => outOf_len nmOs 1000000 (by decide) k) (by decide) (nmE w) (nmE_ok w) (fun W => trivial)
  (fun k hk h => by
   have : k = 10 := by
    rcases k with _ | _ | _ | _ | _ | _ | _ | _ | _ | _ | _ | _ | _ | _ | k
    all_goals first | rfl | (exact absurd h (by decide)) | (exact absurd hk (by show ¬ k + 14 < 14; omega))
   subst this
   exact ⟨rfl, fun dp xp v W hv => hv⟩) (nm_lines ht)
end Go.Proofs.YtffalfacakdhkaaGreatDoor
namespace Go.Proofs.YtffalfacakdhkaaGreatDoor
open Go.RowKit Go.Maps Go.Shelf
set_option linter.unusedVariables false
set_option linter.unusedSimpArgs false
/-- Beside the builder: an image. -/
def ImE (w0 : World) (Nm q : Nat) (Y : Hd) (PM : SnM → Prop) (dp xp v : Value) (W : World) : Prop := ∃ i N M, xp = .pointer (some ⟨i.x, 0, none⟩) ∧ N ≤ Nm ∧ PM M ∧ EImg w0 i N q Y M v W
theorem ImE.ok (w0 : World) (Nm q : Nat) (Y : Hd) (PM : SnM → Prop) (dp xp : Value) : EnvOk (fun v W => ImE w0 Nm q Y PM dp xp v W) :=
 EnvOk.ex fun i => EnvOk.ex fun N => EnvOk.ex fun M => EnvOk.and (EnvOk.and (EnvOk.and (EImg.ok w0 i N q Y M)))
def PM0 (M : SnM) : Prop := M = []
def PM1 (M : SnM) : Prop := ∃ g, M = [(1, (g, zF))]
def PM2 (M : SnM) : Prop := ∃ g g', M = [(2, (g', zF)), (1, (g, zF))]
def PM3 (M : SnM) : Prop := ∃ g', M = [(2, (g', zF))]
def awE (w0 : World) : Nat → Value → Value → Value → World → Prop
 | 0 => fun _ _ _ _ => True
 | 1 => fun dp xp v W => ∃ d sb ob, dp = .pointer (some ⟨d, 0, none⟩) ∧ EDev w0 400 d sb ob v W
 | 2 => ImE w0 100 0 (hdN 1) PM0
 | 3 => ImE w0 101 1 (hdN 2) PM1
 | 4 => ImE w0 102 2 (hdN 3) PM2
 | _ => ImE w0 103 3 (hdN 3) PM3
theorem awE_dev (w0 : World) (dp : Value) : EnvOk (fun v W => ∃ d sb ob, dp = .pointer (some ⟨d, 0, none⟩) ∧ EDev w0 400 d sb ob v W) := EnvOk.ex fun d => EnvOk.ex fun sb => EnvOk.ex fun ob => EnvOk.and (EDev.ok w0 400 d sb ob)
theorem awE_ok (w0 : World) (k : Nat) (dp xp : Value) : EnvOk (awE w0 k dp xp) := by
 unfold awE
 split
 ·exact EnvOk.none
 ·exact awE_dev w0 dp
 ·exact ImE.ok _ _ _ _ _ dp xp
 ·exact ImE.ok _ _ _ _ _ dp xp
 ·exact ImE.ok _ _ _ _ _ dp xp
 ·exact ImE.ok _ _ _ _ _ dp xp
theorem aw_0 {w0 : World} (ht : LnT w0) (W : World) (db : Nat) (v p dp xp : Value) (h : DkA w0 W db v p (outOf awOs 0) dp xp (((0 : Nat) : Int) + 1)) (he : awE w0 0 dp xp v W) : Calls Tryz.prog 15 #[.pointer (some ⟨db, 0, none⟩), .string ⟨(awLs.getD 0 []).toArray⟩] W fun e w' => ∃ r, e = .returned (.int .i64 r) ∧ LnEnd w0 db (outOf awOs 0) (awOs.getD 0 []) (((0 : Nat) : Int) + 1) (awE w0 1) W r w' := by
 have hol : (outOf awOs 0).length ≤ 1000 := by decide
 generalize outOf awOs 0 = O at h hol ⊢
 refine ln_tell ht h [100, 105, 115, 107, 32, 52, 48, 48] [100, 105, 115, 107] [[52, 48, 48]] (by decide) w_disk_400 (by decide) (by decide) 20 (by decide) _ _ Tryz.func20 (by kernel_rfl) rfl [400] n_disk_400 _ ?_
 intro W1 A B c hB hO
 refine (dsk_disk_ok ht (h.below hB) (by omega) 400 (by omega) hO).mono ?_
 rintro e w' ⟨rfl, d, sb, ob, hw⟩
 exact ⟨rfl, lnEnd_ok hw hB (fun v w hv => ⟨d, sb, ob, rfl, hv⟩)⟩
theorem aw_1 {w0 : World} (ht : LnT w0) (W : World) (db : Nat) (v p dp xp : Value) (h : DkA w0 W db v p (outOf awOs 1) dp xp (((1 : Nat) : Int) + 1)) (he : awE w0 1 dp xp v W) : Calls Tryz.prog 15 #[.pointer (some ⟨db, 0, none⟩), .string ⟨(awLs.getD 1 []).toArray⟩] W fun e w' => ∃ r, e = .returned (.int .i64 r) ∧ LnEnd w0 db (outOf awOs 1) (awOs.getD 1 []) (((1 : Nat) : Int) + 1) (awE w0 2) W r w' := by
 have hol : (outOf awOs 1).length ≤ 1000 := by decide
 generalize outOf awOs 1 = O at h hol ⊢
 obtain ⟨d, sb, ob, rfl, he⟩ := he
 refine ln_tell ht h [102, 111, 114, 109, 97, 116, 32, 54, 52, 32, 52, 32, 51, 50, 32, 49, 32, 56] [102, 111, 114, 109, 97, 116] [[54, 52], [52], [51, 50], [49], [56]] (by decide) w_format_64_4_32_1_8 (by decide) (by decide) 21 (by decide) _ _ Tryz.func21 (by kernel_rfl) rfl [64, 4, 32, 1, 8] n_format_64_4_32_1_8 _ ?_
 intro W1 A B c hB hO
 refine (dsk_format ht (h.below hB) ((EDev.ok w0 400 d sb ob).below he hB) (by omega) hO).mono ?_
 rintro e w' ⟨rfl, i, N, hN, hw⟩
 exact ⟨rfl, lnEnd_ok hw hB (fun v w hv => ⟨i, N, [], rfl, hN, rfl, hv⟩)⟩
theorem aw_2 {w0 : World} (ht : LnT w0) (W : World) (db : Nat) (v p dp xp : Value) (h : DkA w0 W db v p (outOf awOs 2) dp xp (((2 : Nat) : Int) + 1)) (he : awE w0 2 dp xp v W) : Calls Tryz.prog 15 #[.pointer (some ⟨db, 0, none⟩), .string ⟨(awLs.getD 2 []).toArray⟩] W fun e w' => ∃ r, e = .returned (.int .i64 r) ∧ LnEnd w0 db (outOf awOs 2) (awOs.getD 2 []) (((2 : Nat) : Int) + 1) (awE w0 3) W r w' := by
 have hol : (outOf awOs 2).length ≤ 1000 := by decide
 generalize outOf awOs 2 = O at h hol ⊢
 obtain ⟨i, N, M, rfl, hN, hM, he⟩ := he
 obtain rfl : M = [] := hM
 refine ln_do (EnvOk.ex fun g => EImg.ok w0 i (N + 1) (0 + 1) (hdN (((1 : Nat) : Int) + 1)) (aput [] ((1 : Nat) : Int) (g, zF))) ht (by omega) h [115, 110, 97, 112, 115, 104, 111, 116] [115, 110, 97, 112, 115, 104, 111, 116] [] (by decide) w_snapshot (by decide) (by decide) ⟨5, 0, 0, 0, [], []⟩ st_snapshot (by decide) 49 (fun b2 b3 b4 => [b2, b4]) (fun _ _ _ => rfl) _ _ Tryz.func49 (by kernel_rfl) rfl (.pointer (some ⟨i.x, 0, none⟩)) (taleE 0 1) (tb_sl _ _) (i64b_small _ (by decide)) (i64b_small _ (by decide)) (tb_nums _ _) (by decide) _ t_snap1 (by decide) _ rfl (fun v w hv => by obtain ⟨g, hv⟩ := hv; exact ⟨i, N + 1, [(1, (g, zF))], rfl, by omega, ⟨g, rfl⟩, hv⟩) ?_
 intro W1 b2 b3 b4 SB A nb c c' hB hD h4 k2 k3 k4
 exact cl_snap (M := []) 1 hD (he.below hB) (by omega) (by omega) (by decide) (by omega) rfl k2 k4 h4
theorem aw_3 {w0 : World} (ht : LnT w0) (W : World) (db : Nat) (v p dp xp : Value) (h : DkA w0 W db v p (outOf awOs 3) dp xp (((3 : Nat) : Int) + 1)) (he : awE w0 3 dp xp v W) : Calls Tryz.prog 15 #[.pointer (some ⟨db, 0, none⟩), .string ⟨(awLs.getD 3 []).toArray⟩] W fun e w' => ∃ r, e = .returned (.int .i64 r) ∧ LnEnd w0 db (outOf awOs 3) (awOs.getD 3 []) (((3 : Nat) : Int) + 1) (awE w0 4) W r w' := by
 have hol : (outOf awOs 3).length ≤ 1000 := by decide
 generalize outOf awOs 3 = O at h hol ⊢
 obtain ⟨i, N, M, rfl, hN, hM, he⟩ := he
 obtain ⟨g0, rfl⟩ := hM
 refine ln_do (EnvOk.ex fun g => EImg.ok w0 i (N + 1) (1 + 1) (hdN (((2 : Nat) : Int) + 1)) (aput [(1, (g0, zF))] ((2 : Nat) : Int) (g, zF))) ht (by omega) h [115, 110, 97, 112, 115, 104, 111, 116] [115, 110, 97, 112, 115, 104, 111, 116] [] (by decide) w_snapshot (by decide) (by decide) ⟨5, 0, 0, 0, [], []⟩ st_snapshot (by decide) 49 (fun b2 b3 b4 => [b2, b4]) (fun _ _ _ => rfl) _ _ Tryz.func49 (by kernel_rfl) rfl (.pointer (some ⟨i.x, 0, none⟩)) (taleE 0 2) (tb_sl _ _) (i64b_small _ (by decide)) (i64b_small _ (by decide)) (tb_nums _ _) (by decide) _ t_snap2 (by decide) _ rfl (fun v w hv => by obtain ⟨g, hv⟩ := hv; exact ⟨i, N + 1, [(2, (g, zF)), (1, (g0, zF))], rfl, by omega, ⟨g0, g, rfl⟩, hv⟩) ?_
 intro W1 b2 b3 b4 SB A nb c c' hB hD h4 k2 k3 k4
 exact cl_snap (M := [(1, (g0, zF))]) 2 hD (he.below hB) (by omega) (by omega) (by simp) (by omega) rfl k2 k4 h4
theorem aw_4 {w0 : World} (ht : LnT w0) (W : World) (db : Nat) (v p dp xp : Value) (h : DkA w0 W db v p (outOf awOs 4) dp xp (((4 : Nat) : Int) + 1)) (he : awE w0 4 dp xp v W) : Calls Tryz.prog 15 #[.pointer (some ⟨db, 0, none⟩), .string ⟨(awLs.getD 4 []).toArray⟩] W fun e w' => ∃ r, e = .returned (.int .i64 r) ∧ LnEnd w0 db (outOf awOs 4) (awOs.getD 4 []) (((4 : Nat) : Int) + 1) (awE w0 5) W r w' := by
 have hol : (outOf awOs 4).length ≤ 1000 := by decide
 generalize outOf awOs 4 = O at h hol ⊢
 obtain ⟨i, N, M, rfl, hN, hM, he⟩ := he
 obtain ⟨g0, g1, rfl⟩ := hM
 refine ln_do (EImg.ok w0 i (N + 1) 3 (hdN 3) [(2, (g1, zF))]) ht (by omega) h [100, 101, 108, 101, 116, 101, 32, 49] [100, 101, 108, 101, 116, 101] [[49]] (by decide) w_delete_1 (by decide) (by decide) ⟨6, 0, 0, 1, [], []⟩ st_delete (by decide) 51 (fun b2 b3 b4 => [b2, b3, b4]) (fun _ _ _ => rfl) _ _ Tryz.func51 (by kernel_rfl) rfl (.pointer (some ⟨i.x, 0, none⟩)) (taleE 0 0) (tb_sl _ _) (i64b_small _ (by decide)) (i64b_small _ (by decide)) (tb_nums _ _) (by decide) _ t_ok (by decide) _ rfl (fun v w hv => ⟨i, N + 1, [(2, (g1, zF))], rfl, by omega, ⟨g1, rfl⟩, hv⟩) ?_
 intro W1 b2 b3 b4 SB A nb c c' hB hD h4 k2 k3 k4
 exact cl_delete 1 hD (he.below hB) (by omega) (by omega) (by simp) (by omega) _ _ _ rfl 0 (N + 1) 3 [(2, (g1, zF))] (fun W1 w' r2 hP => by
  rcases hP with ⟨h1, h2, h3, h4⟩ | ⟨h1, h2, h3, h4⟩
  ·exact ⟨h2, h3, h4⟩
  ·exact absurd ((sIds_perm _).mem_iff.2 (by simp)) h1) k2 k3 k4 h4
theorem aw_5 {w0 : World} (ht : LnT w0) (W : World) (db : Nat) (v p dp xp : Value) (h : DkA w0 W db v p (outOf awOs 5) dp xp (((5 : Nat) : Int) + 1)) (he : awE w0 5 dp xp v W) : Calls Tryz.prog 15 #[.pointer (some ⟨db, 0, none⟩), .string ⟨(awLs.getD 5 []).toArray⟩] W fun e w' => ∃ r, e = .returned (.int .i64 r) ∧ LnEnd w0 db (outOf awOs 5) (awOs.getD 5 []) (((5 : Nat) : Int) + 1) (awE w0 6) W r w' := by
 have hol : (outOf awOs 5).length ≤ 1000 := by decide
 generalize outOf awOs 5 = O at h hol ⊢
 obtain ⟨i, N, M, rfl, hN, hM, he⟩ := he
 obtain ⟨g1, rfl⟩ := hM
 refine ln_do (EImg.ok w0 i N 3 (hdN 3) [(2, (g1, zF))]) ht (by omega) h [100, 101, 108, 101, 116, 101, 32, 49] [100, 101, 108, 101, 116, 101] [[49]] (by decide) w_delete_1 (by decide) (by decide) ⟨6, 0, 0, 1, [], []⟩ st_delete (by decide) 51 (fun b2 b3 b4 => [b2, b3, b4]) (fun _ _ _ => rfl) _ _ Tryz.func51 (by kernel_rfl) rfl (.pointer (some ⟨i.x, 0, none⟩)) (taleE 13 0) (tb_sl _ _) (i64b_small _ (by decide)) (i64b_small _ (by decide)) (tb_nums _ _) (by decide) _ t_e13 (by decide) _ rfl (fun v w hv => ⟨i, N, [(2, (g1, zF))], rfl, hN, ⟨g1, rfl⟩, hv⟩) ?_
 intro W1 b2 b3 b4 SB A nb c c' hB hD h4 k2 k3 k4
 exact cl_delete 1 hD (he.below hB) (by omega) (by omega) (by simp) (by omega) _ _ _ rfl 13 N 3 [(2, (g1, zF))] (fun W1 w' r2 hP => by
  rcases hP with ⟨h1, h2, h3, h4⟩ | ⟨h1, h2, h3, h4⟩
  ·exact absurd ((sIds_perm _).mem_iff.1 h1) (by simp)
  ·exact ⟨h2, h3, h4⟩) k2 k3 k4 h4
theorem aw_6 {w0 : World} (ht : LnT w0) (W : World) (db : Nat) (v p dp xp : Value) (h : DkA w0 W db v p (outOf awOs 6) dp xp (((6 : Nat) : Int) + 1)) (he : awE w0 6 dp xp v W) : Calls Tryz.prog 15 #[.pointer (some ⟨db, 0, none⟩), .string ⟨(awLs.getD 6 []).toArray⟩] W fun e w' => ∃ r, e = .returned (.int .i64 r) ∧ LnEnd w0 db (outOf awOs 6) (awOs.getD 6 []) (((6 : Nat) : Int) + 1) (awE w0 7) W r w' := by
 have hol : (outOf awOs 6).length ≤ 1000 := by decide
 generalize outOf awOs 6 = O at h hol ⊢
 obtain ⟨i, N, M, rfl, hN, hM, he⟩ := he
 obtain ⟨g1, rfl⟩ := hM
 refine ln_do (EImg.ok w0 i N 3 (hdN 3) [(2, (g1, zF))]) ht (by omega) h [114, 101, 97, 100, 32, 48, 32, 48] [114, 101, 97, 100] [[48], [48]] (by decide) w_read_0_0 (by decide) (by decide) ⟨1, 0, 0, 0, [], []⟩ st_read (by decide) 41 (fun b2 b3 b4 => [b2, b3, b4]) (fun _ _ _ => rfl) _ _ Tryz.func41 (by kernel_rfl) rfl (.pointer (some ⟨i.x, 0, none⟩)) (taleE 0 0) (tb_sl _ _) (i64b_small _ (by decide)) (i64b_small _ (by decide)) (tb_nums _ _) (by decide) _ t_ok (by decide) _ rfl (fun v w hv => ⟨i, N, [(2, (g1, zF))], rfl, hN, ⟨g1, rfl⟩, hv⟩) ?_
 intro W1 b2 b3 b4 SB A nb c c' hB hD h4 k2 k3 k4
 exact cl_read hD (he.below hB) _ _ _ rfl rfl k2 k3 k4 h4
theorem sIds_two (x : Nat × MpF) : sIds [((2 : Int), x)] = [2] := by
 unfold sIds
 simp
theorem st_nums (l : List Int) : ∀ z ∈ (⟨0, 0, 64, 4, 32, 1, 8, 0, 0, 4, 0, l⟩ : TaleN).nums, i64b z := fun z hz => by
 have : 0 ≤ z ∧ z ≤ 64 := by
  simp [TaleN.nums] at hz
  omega
 exact i64b_small _ (by omega)
theorem aw_7 {w0 : World} (ht : LnT w0) (W : World) (db : Nat) (v p dp xp : Value) (h : DkA w0 W db v p (outOf awOs 7) dp xp (((7 : Nat) : Int) + 1)) (he : awE w0 7 dp xp v W) : Calls Tryz.prog 15 #[.pointer (some ⟨db, 0, none⟩), .string ⟨(awLs.getD 7 []).toArray⟩] W fun e w' => ∃ r, e = .returned (.int .i64 r) ∧ LnEnd w0 db (outOf awOs 7) (awOs.getD 7 []) (((7 : Nat) : Int) + 1) (awE w0 8) W r w' := by
 have hol : (outOf awOs 7).length ≤ 1000 := by decide
 generalize outOf awOs 7 = O at h hol ⊢
 obtain ⟨i, N, M, rfl, hN, hM, he⟩ := he
 obtain ⟨g1, rfl⟩ := hM
 refine ln_do (EImg.ok w0 i N 3 (hdN 3) [(2, (g1, zF))]) ht (by omega) h [115, 116, 97, 116] [115, 116, 97, 116] [] (by decide) w_stat (by decide) (by decide) ⟨12, 0, 0, 0, [], []⟩ st_stat (by decide) 59 (fun b2 b3 b4 => [b2, b4]) (fun _ _ _ => rfl) _ _ Tryz.func59 (by kernel_rfl) rfl (.pointer (some ⟨i.x, 0, none⟩)) ⟨0, 0, 64, 4, 32, 1, 8, 0, 0, 4, 0, sIds [(2, (g1, zF))]⟩ (by rw [sIds_two]; intro z hz; simp at hz; subst hz; exact i64b_small _ (by omega)) (show i64b 0 from i64b_small _ (by omega)) (show i64b 0 from i64b_small _ (by omega)) (st_nums _) (by rw [sIds_two]; decide) [111, 107, 32, 115, 116, 97, 116, 32, 54, 52, 32, 52, 32, 51, 50, 32, 49, 32, 56, 32, 48, 32, 48, 32, 52, 32, 48, 32, 50] (by rw [sIds_two]; exact t_stat) (by decide) _ rfl (fun v w hv => ⟨i, N, [(2, (g1, zF))], rfl, hN, ⟨g1, rfl⟩, hv⟩) ?_
 intro W1 b2 b3 b4 SB A nb c c' hB hD h4 k2 k3 k4
 exact cl_stat hD (he.below hB) (sIds_len _) k2 k4 h4
theorem aw_8 {w0 : World} (ht : LnT w0) (W : World) (db : Nat) (v p dp xp : Value) (h : DkA w0 W db v p (outOf awOs 8) dp xp (((8 : Nat) : Int) + 1)) (he : awE w0 8 dp xp v W) : Calls Tryz.prog 15 #[.pointer (some ⟨db, 0, none⟩), .string ⟨(awLs.getD 8 []).toArray⟩] W fun e w' => ∃ r, e = .returned (.int .i64 r) ∧ LnEnd w0 db (outOf awOs 8) (awOs.getD 8 []) (((8 : Nat) : Int) + 1) (awE w0 9) W r w' := by
 have hol : (outOf awOs 8).length ≤ 1000 := by decide
 generalize outOf awOs 8 = O at h hol ⊢
 exact ln_none (awE_ok w0 8 dp xp) ht h he [119, 104, 97, 116] [119, 104, 97, 116] [] (by decide) w_what (by decide) (by decide) st_what _ wr_310_9.symm (fun v w hv => hv)
theorem aw_lines {w0 : World} (ht : LnT w0) : ∀ k, k < awLs.length → awLs.getD k [] ≠ [] → ∀ (W1 : World) (db : Nat) (v p dp xp : Value), DkA w0 W1 db v p (outOf awOs k) dp xp ((k : Int) + 1) → awE w0 k dp xp v W1 → Calls Tryz.prog 15 #[.pointer (some ⟨db, 0, none⟩), .string ⟨(awLs.getD k []).toArray⟩] W1 fun e w' => ∃ r, e = .returned (.int .i64 r) ∧ LnEnd w0 db (outOf awOs k) (awOs.getD k []) ((k : Int) + 1) (awE w0 (k + 1)) W1 r w'
 | 0, _, _ => aw_0 ht
 | 1, _, _ => aw_1 ht
 | 2, _, _ => aw_2 ht
 | 3, _, _ => aw_3 ht
 | 4, _, _ => aw_4 ht
 | 5, _, _ => aw_5 ht
 | 6, _, _ => aw_6 ht
 | 7, _, _ => aw_7 ht
 | 8, _, _ => aw_8 ht
 | 9, _, h => absurd rfl h
 | k + 10, h, _ => absurd h (by show ¬ k + 10 < 10; omega)
theorem aw_run {w : World} (ht : LnT w) : Calls Tryz.prog 6 #[.string ⟨(joinN awLs).toArray⟩] w fun e w' => e = .returned (.string ⟨(outOf awOs 10).toArray⟩) ∧ Below w.heap.size w w' :=
 run_any ht (joinN awLs) (by decide) awLs awOs rfl (by decide) (by decide) (by decide) (fun k => joinN_drop awLs 2000000 (by decide) k) rfl (fun k => outOf_len awOs 1000000 (by decide) k) (by decide) (awE w) (awE_ok w) (fun W => trivial)
  (fun k hk h => by
   have : k = 9 := by
    rcases k with _ | _ | _ | _ | _ | _ | _ | _ | _ | _ | k
    all_goals first | rfl | (exact absurd h (by decide)) | (exact absurd hk (by show ¬ k + 10 < 10; omega))
   subst this
   exact ⟨rfl, fun dp xp v W hv => hv⟩) (aw_lines ht)
end Go.Proofs.YtffalfacakdhkaaGreatDoor
