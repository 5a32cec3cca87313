/-
  what this claim needs of: DkC6, DkC7, DkC8 (written by cut.py).
-/
import Derived.Test.YtffalfacakdhkaaGreatDoorDDkC4
import Derived.Test.YtffalfacakdhkaaGreatDoorDDkI9
namespace Go.Proofs.YtffalfacakdhkaaGreatDoor
open Go.RowKit Go.Maps Go.Shelf
set_option linter.unusedVariables false
set_option linter.unusedSimpArgs false
theorem KpL.fresh {W w w' : World} {b : Nat} (h : KpL W w) (hT : Tch [b] w w') (hb : W.heap.size ≤ b) : KpL W w' :=
 ⟨Nat.le_trans h.size hT.size, fun g t cs hg ht => (h.blk g t cs hg ht).tch hT (by have := hg.lt; simp; omega), fun g o ho hc hm => by
  have h1 := h.obj g o ho hc hm
  have h2 := (Array.getElem?_eq_some_iff.1 ho).1
  exact (hT.block g (Array.getElem?_eq_some_iff.1 h1).1 (by simp; omega)).trans h1⟩
theorem own_tch1 {w w' : World} {B n sz b : Nat} {e t : TypeId} {v : Value} {xs : List Value} {cs : Array Value} (h : w.ownsRow B e sz v n xs) (hb : Blk w b t cs) (ht : e ≠ t) (hT : Tch [b] w w') : w'.ownsRow B e sz v n xs := by
 refine ⟨h.1, h.2.imp id ?_⟩
 rintro ⟨g, cap, cur, e1, a1, a2, r⟩
 have h4 : Blk w g e cur := a2
 exact ⟨g, cap, cur, e1, a1, h4.tch hT (nin1 (blk_ne_tyD h4 hb ht)), r⟩
theorem OtL.ot {t : TypeId} (h : OtL t) : OtT t := ⟨h.1, h.2.1, h.2.2.1, h.2.2.2.1, h.2.2.2.2.1, h.2.2.2.2.2.1, h.2.2.2.2.2.2.1, h.2.2.2.2.2.2.2.1, h.2.2.2.2.2.2.2.2.1⟩
theorem ImIs.kp [gm : Inhabited GMk] {W W' : World} {i : ImI} {N q : Nat} {Y : Hd} {M : SnM} (h : ImIs W i N q Y M) (hT : Tch (imT i) W W') : KpL W W' := by
 refine KpL.tch hT (fun g t cs hb ht => h.nin hb ht.ot) (fun g o ho hc hm hk => ?_)
 obtain ⟨L, K, S, O, h1, h2⟩ := h.cc
 obtain ⟨now, hi, mi, hkb⟩ := h1.blk
 have hblk : ∀ {r t cs}, Blk W r t cs → g ≠ r := fun {r t cs} hb e => by
  subst e
  unfold Blk at hb
  rw [hb] at ho
  injection ho with ho
  subst ho
  cases hc
 have hmap : ∀ {α β : Type} [DecidableEq α] {k : TypeId} {kv : α → Value} {kl : α → Lit} {ve : β → Value} {M : List (α × β)} {b : Nat}, MapIs Tryz.prog k kv kl ve W b M → g ≠ b := fun hb e => by
  subst e
  obtain ⟨es, c, e⟩ := hb.objD
  rw [e] at ho
  injection ho with ho
  exact hm _ _ ho.symm
 unfold imT at hk
 simp only [List.mem_cons, List.not_mem_nil, or_false] at hk
 rcases hk with hk | hk | hk | hk | hk | hk | hk | hk | hk
 ·exact hblk hkb hk
 ·exact hmap h1.map hk
 ·exact hmap h1.dk.safe hk
 ·exact hmap h1.dk.opn hk
 ·exact hblk h.jr hk
 ·exact hblk h.blk hk
 ·exact hmap h.st.idx.map hk
 ·exact hblk h.st.maps.blk hk
 ·exact hmap h.st.maps.map hk
section
variable {w0 W : World} {db : Nat} {v p : Value} {out : List UInt8} {dp xp : Value} {n : Int}
/-- A tale's numbers: of its end, its snapshot, its nine numbers; the snapshots that it names. -/
structure TaleN where
 e : Int
 sn : Int
 v0 : Int
 v1 : Int
 v2 : Int
 v3 : Int
 v4 : Int
 v5 : Int
 v6 : Int
 v7 : Int
 v8 : Int
 sl : List Int
def TaleN.nums (t : TaleN) : List Int := [t.v0, t.v1, t.v2, t.v3, t.v4, t.v5, t.v6, t.v7, t.v8]
def TaleN.vs (t : TaleN) (S : Value) : Array Value := taleV t.e t.sn (.slice none 0 0) t.v0 t.v1 t.v2 t.v3 t.v4 t.v5 t.v6 t.v7 t.v8 S
/-- A tale of an end (and a snapshot) alone. -/
def taleE (e sn : Int) : TaleN := ⟨e, sn, 0, 0, 0, 0, 0, 0, 0, 0, 0, []⟩
def TalO (t : TaleN) (T : Array Value) (w : World) : Prop := ∃ SA sc B, T = t.vs (.slice SA t.sl.length sc) ∧ w.ownsRow B 3 1 (.slice SA t.sl.length sc) t.sl.length (t.sl.map (Value.int .i64))
theorem TalO.nil (e sn : Int) (w : World) : TalO (taleE e sn) ((taleE e sn).vs (.slice none 0 0)) w := ⟨none, 0, 0, rfl, World.ownsRow_nil _ _ _ _⟩
theorem TalO.size {t : TaleN} {T : Array Value} {w : World} (h : TalO t T w) : T.size = 13 := by
 obtain ⟨SA, sc, B, rfl, _⟩ := h
 rfl
theorem TalO.one {t : TaleN} {T : Array Value} {w : World} (h : TalO t T w) : ∀ x ∈ T.toList, x.oneCell' = true := by
 obtain ⟨SA, sc, B, rfl, _⟩ := h
 simp [TaleN.vs, taleV, Value.oneCell']
theorem TalO.turn {t : TaleN} {T : Array Value} {w w' : World} {b : Nat} (h : TalO t T w) (hb : Blk w b 70 T) (hT : Tch [b] w w') : TalO t T w' := by
 obtain ⟨SA, sc, B, h1, h2⟩ := h
 exact ⟨SA, sc, B, h1, own_tch1 h2 hb (by decide) hT⟩
/-- What a closure of step leaves: the tale in b4, the desk, what stands beside it. -/
structure ClP (E' : Value → World → Prop) (w0 W : World) (db : Nat) (v p : Value) (out : List UInt8) (dp xp : Value) (n : Int) (b4 : Nat) (t : TaleN) (T : Array Value) (w' : World) : Prop where
 tal : TalO t T w'
 blk : Blk w' b4 70 T
 dk : DkA w0 w' db v p out dp xp n
 env : E' v w'
 kp : ∃ w1, KpL W w1 ∧ Tch [b4] w1 w'
/-- What step leaves. -/
structure StpP (E' : Value → World → Prop) (w0 W : World) (db : Nat) (v p : Value) (out : List UInt8) (dp xp : Value) (n : Int) (t : TaleN) (T : Array Value) (w' : World) : Prop where
 tal : TalO t T w'
 dk : DkA w0 w' db v p out dp xp n
 env : E' v w'
 kp : KpL W w'
theorem DkA.kept (h : DkA w0 W db v p out dp xp n) {W' : World} {b : Nat} {t : TypeId} {cs : Array Value} (hb : Blk W b t cs) (h1 : 37 ≠ t) (h2 : 5 ≠ t) (hge : w0.heap.size ≤ b) (hT : Tch [b] W W') : DkA w0 W' db v p out dp xp n :=
 h.tch hT (nin1 (blk_ne_tyD h.blk hb h1)) (fun g hg => by obtain ⟨cs2, h3⟩ := h.row g hg; exact nin1 (blk_ne_tyD h3 hb h2)) (fun k hk => by rw [List.mem_singleton.1 hk]; exact hge)
theorem StpP.turn {E' : Value → World → Prop} (hE : EnvOk E') {t : TaleN} {T : Array Value} {w w' : World} {b : Nat} (h : StpP E' w0 W db v p out dp xp n t T w) (hb : Blk w b 70 T) (hge : W.heap.size ≤ b) (hw : w0.heap.size ≤ W.heap.size) (hT : Tch [b] w w') : StpP E' w0 W db v p out dp xp n t T w' :=
 ⟨h.tal.turn hb hT, h.dk.kept hb (by decide) (by decide) (by omega) hT, hE.alien h.env (.inl ⟨_, _, hb, by decide⟩) hT, h.kp.fresh hT hge⟩
theorem ClP.stp {E' : Value → World → Prop} {W1 w' : World} {b4 : Nat} {t : TaleN} {T : Array Value} (h : ClP E' w0 W1 db v p out dp xp n b4 t T w') (hb : Below W.heap.size W W1) (hge : W.heap.size ≤ b4) : StpP E' w0 W db v p out dp xp n t T w' := by
 obtain ⟨w1, h1, h2⟩ := h.kp
 exact ⟨h.tal, h.dk, h.env, ((KpL.below hb).trans h1).fresh h2 hge⟩
theorem dsk_do {E' : Value → World → Prop} (hE : EnvOk E') (hw : w0.heap.size ≤ W.heap.size) {xp' : Value} (t : TaleN) (y : StepV) (SB SF : Value) (hkd : 0 ≤ y.kind ∧ y.kind < 256) (f : FuncId) (cl : Nat → Nat → Nat → List Nat) (hget : ∀ b2 b3 b4, aget (stepM b2 b3 b4) y.kind = some (f, cl b2 b3 b4))
  (fn : Func) (code : Code) (hf : Tryz.prog.funcs[f]? = some fn) (hname : (fn.name == "runtime.NumGoroutine") = false) (hb : fn.body = some code)
  (hcall : ∀ (W1 : World) (b2 b3 b4 : Nat), Below W.heap.size W W1 → W.heap.size ≤ b4 → Blk W1 b2 30 #[.pointer (some ⟨db, 0, none⟩)] → Blk W1 b3 61 (stepVs y SB SF) → Blk W1 b4 70 taleZ →
   Calls Tryz.prog f ((cl b2 b3 b4).map (fun b => Value.pointer (some ⟨b, 0, none⟩))).toArray W1 fun e w' => (∃ r, e = .returned r) ∧ ∃ T, ClP E' w0 W1 db v p out dp xp' n b4 t T w') :
  Calls Tryz.prog 27 #[.pointer (some ⟨db, 0, none⟩), .agg (stepVs y SB SF)] W fun e w' => ∃ T, e = .returned (.agg T) ∧ StpP E' w0 W db v p out dp xp' n t T w' :=
 dsk_step y SB SF hkd f cl hget fn code hf hname hb (fun T w' => StpP E' w0 W db v p out dp xp' n t T w') (fun T w w' b h h1 h2 h3 => h.turn hE h1 h2 hw h3) (fun W1 b2 b3 b4 h1 h2 h3 h4 h5 => (hcall W1 b2 b3 b4 h1 h2 h3 h4 h5).mono (by
  rintro e w' ⟨he, T, hC⟩
  exact ⟨he, T, hC.tal.size, hC.tal.one, hC.blk, hC.stp h1 h2⟩))
theorem rd_ownD {w : World} {B n : Nat} {A : Option Addr} {c : Nat} {zs : List Int} (h : w.ownsRow B 3 1 (.slice A n c) n (zs.map (Value.int .i64))) (hn : zs.length = n) : RdI .i64 w A n zs := by
 refine ⟨hn, fun h0 => ?_⟩
 obtain ⟨g, cap, hv, hr⟩ := h.form h0
 injection hv with hA _ hc
 subst hA
 subst hc
 obtain ⟨cs, hb⟩ := own_obj h (b := g) rfl
 refine ⟨g, 0, rfl, (Array.getElem?_eq_some_iff.1 hb).1, fun j hj => ?_⟩
 rw [Nat.zero_add, own_int_cell h (by omega : j < zs.length), List.getD_eq_getElem?_getD, List.getElem?_eq_getElem (by omega)]
 rfl
/-- step's tale is told. -/
theorem dsk_step_tell {E' : Value → World → Prop} (hE : EnvOk E') (ht : LnT w0) (hl : out.length ≤ 80000000) {t : TaleN} {T : Array Value} {w' : World} (h : StpP E' w0 W db v p out dp xp n t T w') (hs : ∀ z ∈ t.sl, i64b z) (he : i64b t.e) (hsn : i64b t.sn) (hnum : ∀ z ∈ t.nums, i64b z) (hsl : t.sl.length ≤ 1000) (TT : List UInt8) (hT : tellL t.e t.sn t.nums t.sl [] = TT) (hTl : TT.length ≤ 1000) :
  Calls Tryz.prog 26 #[.pointer (some ⟨db, 0, none⟩), .agg T] w' fun r w2 => r = .returned (.int .i64 0) ∧ WrtB E' w0 db (out ++ (TT ++ [10])) dp xp n W w2 := by
 obtain ⟨SA, sc, B, rfl, ho⟩ := h.tal
 refine (dsk_tell hE ht h.dk h.env (by omega) t.e t.sn t.v0 t.v1 t.v2 t.v3 t.v4 t.v5 t.v6 t.v7 t.v8 SA t.sl.length sc t.sl (rd_ownD ho rfl) hs he hsn hnum (by omega) TT hT hTl).mono ?_
 rintro r w2 ⟨rfl, v', p', h1, h2, h3⟩
 exact ⟨rfl, v', p', h1, h2, h.kp.trans h3⟩
/-- An image's deeds, seen from a desk. -/
theorem DkA.img (h : DkA w0 W db v p out dp xp n) {i : ImI} {N q : Nat} {Y : Hd} {M : SnM} (he : EImg w0 i N q Y M v W) {W' : World} (hT : Tch (imT i) W W') : DkA w0 W' db v p out dp xp n :=
 h.tch hT (@ImIs.apart (mkV v) _ _ _ _ _ _ _ _ _ he.2 h.blk (.inl rfl)) (fun g hg => by obtain ⟨cs, hb⟩ := h.row g hg; exact @ImIs.apart (mkV v) _ _ _ _ _ _ _ _ _ he.2 hb (.inr rfl)) he.1
theorem info_snp : (Tryz.prog.info? 3).map (·.size) = some 1 := by kernel_rfl
theorem info_err : (Tryz.prog.info? 38).map (·.size) = some 1 := by kernel_rfl
set_option maxRecDepth 100000 in
set_option maxHeartbeats 1000000 in
theorem cl_snap {i : ImI} {N q : Nat} {M : SnM} (s : Nat) (h : DkA w0 W db v p out dp (.pointer (some ⟨i.x, 0, none⟩)) n) (he : EImg w0 i N q (hdN (s : Int)) M v W) (hq : q ≤ 5) (hN : N ≤ 1000) (hM : M.length ≤ 7) (hs : 1 ≤ s ∧ s ≤ 100) (hn : aget M (s : Int) = none) {b2 b4 : Nat} (h2 : Blk W b2 30 #[.pointer (some ⟨db, 0, none⟩)]) (h4 : Blk W b4 70 taleZ) (hge : w0.heap.size ≤ b4) :
  Calls Tryz.prog 49 #[.pointer (some ⟨b2, 0, none⟩), .pointer (some ⟨b4, 0, none⟩)] W fun e w' => (∃ r, e = .returned r) ∧ ∃ T, ClP (fun v w => ∃ g, EImg w0 i (N + 1) (q + 1) (hdN ((s : Int) + 1)) (aput M (s : Int) (g, zF)) v w) w0 W db v p out dp (.pointer (some ⟨i.x, 0, none⟩)) n b4 (taleE 0 (s : Int)) T w' := by
 have H := yH h
 have HE := yH he
 have H4 := yH h4
 have c2 : W.cell? ⟨b2, 0, none⟩ = some (.pointer (some ⟨db, 0, none⟩)) := h2.cell rfl
 have c3 : W.cell? ⟨db, 3, none⟩ = some (.pointer (some ⟨i.x, 0, none⟩)) := h.blk.cell rfl
 have HS := yH (@im_snap W i N q M (mkV v) s he.2 hq hN hM hs hn)
 have HG := yH hge
 clear h he h2 h4 hq hN hM hs hn hge
 go_enter Tryz.func49, Tryz.ntmps49
 go_wp2_with (first
  | (go_at_call 50; refine HS.out.mono ?_; rintro e w1 ⟨rfl, ⟨g, hI⟩, hT⟩; have I1 := yH (show EImg w0 i (N + 1) (q + 1) (hdN ((s : Int) + 1)) (aput M (s : Int) (g, zF)) v w1 from ⟨HE.out.1, hI⟩); have A1 := yH (H.out.img HE.out hT); have K1 := yH (@ImIs.kp (mkV v) _ _ _ _ _ _ _ HE.out.2 hT); have B1 := yH (K1.out.blk _ _ _ H4.out (by decide)); clear hI hT)
  | (refine wpl_setD rfl 3 (.tmp 10) (.tmp 8) (by rfl) b4 2 (.int .i64 (s : Int)) (by rfl) (by rfl) _ _ B1.out info_snp (by show 2 < 13; omega) (by rfl) (by rfl) ?_; intro w2 hb hg hz; have B2 := yH hb; have T2 := yH (Tch.one hg); clear hb hg hz; simp only [Act.put, yA, yB, yC])
  | (refine wpl_setD rfl 38 (.tmp 11) (.tmp 9) (by rfl) b4 0 (.int .i64 0) (by rfl) (by rfl) _ _ B2.out info_err (by show 0 < 13; omega) (by rfl) (by rfl) ?_; intro w3 hb hg hz; have B3 := yH (show Blk w3 b4 70 ((taleE 0 (s : Int)).vs (.slice none 0 0)) from hb); have T3 := yH (T2.out.trans (Tch.one hg)); clear hb hg hz; simp only [Act.put, yA, yB, yC]))
 go_end0
 exact ⟨⟨_, rfl⟩, _, TalO.nil _ _ _, B3.out, A1.out.kept B1.out (by decide) (by decide) HG.out T3.out, ⟨g, (EImg.ok w0 i _ _ _ _).alien I1.out (.inl ⟨_, _, B1.out, by decide⟩) T3.out⟩, w1, K1.out, T3.out⟩
end
end Go.Proofs.YtffalfacakdhkaaGreatDoor
namespace Go.Proofs.YtffalfacakdhkaaGreatDoor
open Go.RowKit Go.Maps Go.Shelf
set_option linter.unusedVariables false
set_option linter.unusedSimpArgs false
section
variable {w0 W : World} {db : Nat} {v p : Value} {out : List UInt8} {dp xp : Value} {n : Int}
theorem EImg.below {w0 W W' : World} {i : ImI} {N q : Nat} {Y : Hd} {M : SnM} {v : Value} (h : EImg w0 i N q Y M v W) (hb : Below W.heap.size W W') : EImg w0 i N q Y M v W' := (EImg.ok w0 i N q Y M).below h hb
set_option maxRecDepth 100000 in
set_option maxHeartbeats 1000000 in
theorem cl_delete {i : ImI} {N q : Nat} {Y : Hd} {M : SnM} (s : Nat) (h : DkA w0 W db v p out dp (.pointer (some ⟨i.x, 0, none⟩)) n) (he : EImg w0 i N q Y M v W) (hq : q ≤ 6) (hN : N ≤ 1000) (hM : M.length ≤ 8) (hs : 1 ≤ s ∧ s ≤ 1000) (y : StepV) (SB SF : Value) (hy : y.snap = (s : Int))
  (r : Int) (N' q' : Nat) (M' : SnM) (hP : ∀ W1 w' r2, @DelPost (mkV v) W1 i N q Y M (s : Int) r2 w' → r2 = r ∧ @ImIs (mkV v) w' i N' q' Y M' ∧ Tch (imT i) W1 w')
  {b2 b3 b4 : Nat} (h2 : Blk W b2 30 #[.pointer (some ⟨db, 0, none⟩)]) (h3 : Blk W b3 61 (stepVs y SB SF)) (h4 : Blk W b4 70 taleZ) (hge : w0.heap.size ≤ b4) :
  Calls Tryz.prog 51 #[.pointer (some ⟨b2, 0, none⟩), .pointer (some ⟨b3, 0, none⟩), .pointer (some ⟨b4, 0, none⟩)] W fun e w' => (∃ r, e = .returned r) ∧ ∃ T, ClP (EImg w0 i N' q' Y M') w0 W db v p out dp (.pointer (some ⟨i.x, 0, none⟩)) n b4 (taleE r 0) T w' := by
 have H := yH h.drew
 have HE := yH (he.below (Below.refl _ W).drew)
 have B4 := yH h4.drew
 have B2 := yH h2.drew
 have B3 := yH h3.drew
 have hSt : (stepVs y SB SF)[3]? = some (.int .i64 (s : Int)) := by rw [← hy]; rfl
 have HSt := yH hSt
 have HS := yH (im_delete (gm := mkV v) HE.out.2 hq hN hM s (by omega))
 have HP := yH (hP W.drew)
 have HG := yH hge
 have KD := yH (KpL.below (Below.refl W.heap.size W).drew)
 generalize stepVs y SB SF = sv at *
 clear h he h2 h3 h4 hq hN hM hs hge hP hSt hy
 go_enter Tryz.func51, Tryz.ntmps51
 go_upto_region 0 with fail
 refine wp_region_qs (fun _ w' => w'.cell? ⟨b2, 0, none⟩ = some (.pointer (some ⟨db, 0, none⟩)) ∧ w'.cell? ⟨db, 3, none⟩ = some (.pointer (some ⟨i.x, 0, none⟩)) ∧ w'.cell? ⟨b3, 3, none⟩ = some (.int .i64 (s : Int))) [(0, some 1), (1, some 1), (2, some 1), (3, some 0), (4, some 1), (5, some 0), (6, none), (7, some 1), (8, none)] (by kernel_rfl) (by kernel_rfl) (by kernel_rfl) (by kernel_rfl) (by kernel_rfl) (fun _ _ _ _ _ h => h) ⟨B2.out.cell rfl, H.out.blk.cell rfl, B3.out.cell HSt.out⟩ ?_
 simp only [yD, yE, yF, yG]
 (repeat (first | (refine qs_mid (v := ?_) (by rfl) ?_ ?_; rotate_left 1; (· (intro j w' hj1 hj2 hS; go_simp; (try (simp only [↓IntWalk.iteOmega]; go_simp)); (try simp (disch := omega) only [IntWalk.i64_in]); try with_reducible rfl)); simp only [Act.put, yA, yB, yC]) | (refine qs_skip (by rfl) ?_; simp only [Act.put, yA, yB, yC])))
 refine qs_act ?_
 go_wp2_with (go_at_call 52; refine HS.out.mono ?_; rintro e w1 ⟨r2, rfl, hD⟩; obtain ⟨rfl, hI, hT⟩ := HP.out _ _ hD; have I1 := yH (show EImg w0 i N' q' Y M' v w1 from ⟨HE.out.1, hI⟩); have A1 := yH (H.out.img HE.out hT); have K1 := yH (@ImIs.kp (mkV v) _ _ _ _ _ _ _ HE.out.2 hT); have C4 := yH (K1.out.blk _ _ _ B4.out (by decide)); have C2 := yH (K1.out.blk _ _ _ B2.out (by decide)); have C3 := yH (K1.out.blk _ _ _ B3.out (by decide)); clear hI hT hD)
 refine ⟨⟨C2.out.cell rfl, A1.out.blk.cell rfl, C3.out.cell HSt.out⟩, ?_⟩
 (repeat (first | (refine qs_mid (v := ?_) (by rfl) ?_ ?_; rotate_left 1; (· (intro j w' hj1 hj2 hS; go_simp; (try (simp only [↓IntWalk.iteOmega]; go_simp)); (try simp (disch := omega) only [IntWalk.i64_in]); try with_reducible rfl)); simp only [Act.put, yA, yB, yC]) | (refine qs_skip (by rfl) ?_; simp only [Act.put, yA, yB, yC])))
 refine qs_act ?_
 go_wp2_with (refine wpl_setD rfl 38 (.tmp 10) (.tmp 9) (by rfl) b4 0 (.int .i64 r2) (by rfl) (by rfl) _ _ C4.out info_err (by show 0 < 13; omega) (by rfl) (by rfl) ?_; intro w3 hb hg hz; have D4 := yH (show Blk w3 b4 70 ((taleE r2 0).vs (.slice none 0 0)) from hb); have T3 := yH (Tch.one hg); have A3 := yH (A1.out.kept C4.out (by decide) (by decide) HG.out T3.out); clear hb hg hz)
 refine ⟨⟨(C2.out.tch T3.out (nin1 (blk_ne_tyD C2.out C4.out (by decide)))).cell rfl, A3.out.blk.cell rfl, (C3.out.tch T3.out (nin1 (blk_ne_tyD C3.out C4.out (by decide)))).cell HSt.out⟩, ?_⟩
 (repeat (first | (refine qs_mid (v := ?_) (by rfl) ?_ ?_; rotate_left 1; (· (intro j w' hj1 hj2 hS; go_simp; (try (simp only [↓IntWalk.iteOmega]; go_simp)); (try simp (disch := omega) only [IntWalk.i64_in]); try with_reducible rfl)); simp only [Act.put, yA, yB, yC]) | (refine qs_skip (by rfl) ?_; simp only [Act.put, yA, yB, yC])))
 refine qs_nil ?_
 go_wp2_with fail
 go_end0
 exact ⟨⟨_, rfl⟩, _, TalO.nil _ _ _, D4.out, A3.out, (EImg.ok w0 i _ _ _ _).alien I1.out (.inl ⟨_, _, C4.out, by decide⟩) T3.out, w1, KD.out.trans K1.out, T3.out⟩
theorem info_bys : (Tryz.prog.info? 25).map (·.size) = some 1 := by kernel_rfl
set_option maxRecDepth 100000 in
set_option maxHeartbeats 1000000 in
theorem cl_read {i : ImI} {N q : Nat} {Y : Hd} {M : SnM} (h : DkA w0 W db v p out dp (.pointer (some ⟨i.x, 0, none⟩)) n) (he : EImg w0 i N q Y M v W) (y : StepV) (SB SF : Value) (hy1 : y.pos = 0) (hy2 : y.n = 0)
  {b2 b3 b4 : Nat} (h2 : Blk W b2 30 #[.pointer (some ⟨db, 0, none⟩)]) (h3 : Blk W b3 61 (stepVs y SB SF)) (h4 : Blk W b4 70 taleZ) (hge : w0.heap.size ≤ b4) :
  Calls Tryz.prog 41 #[.pointer (some ⟨b2, 0, none⟩), .pointer (some ⟨b3, 0, none⟩), .pointer (some ⟨b4, 0, none⟩)] W fun e w' => (∃ r, e = .returned r) ∧ ∃ T, ClP (EImg w0 i N q Y M) w0 W db v p out dp (.pointer (some ⟨i.x, 0, none⟩)) n b4 (taleE 0 0) T w' := by
 have H := yH h.drew
 have HE := yH (he.below (Below.refl _ W).drew)
 have B4 := yH h4.drew
 have B2 := yH h2.drew
 have B3 := yH h3.drew
 have hSt : (stepVs y SB SF)[1]? = some (.int .i64 0) ∧ (stepVs y SB SF)[2]? = some (.int .i64 0) := by rw [show (stepVs y SB SF)[1]? = some (.int .i64 y.pos) from rfl, show (stepVs y SB SF)[2]? = some (.int .i64 y.n) from rfl, hy1, hy2]; exact ⟨rfl, rfl⟩
 have HSt := yH hSt
 have HS := yH (im_Read (gm := mkV v) HE.out.2)
 have HG := yH hge
 have KD := yH (KpL.below (Below.refl W.heap.size W).drew)
 generalize stepVs y SB SF = sv at *
 clear h he h2 h3 h4 hge hSt hy1 hy2
 go_enter Tryz.func41, Tryz.ntmps41
 go_upto_region 0 with fail
 refine wp_region_qs (fun _ w' => w'.cell? ⟨b2, 0, none⟩ = some (.pointer (some ⟨db, 0, none⟩)) ∧ w'.cell? ⟨db, 3, none⟩ = some (.pointer (some ⟨i.x, 0, none⟩)) ∧ w'.cell? ⟨b3, 1, none⟩ = some (.int .i64 0) ∧ w'.cell? ⟨b3, 2, none⟩ = some (.int .i64 0)) [(0, some 1), (1, some 1), (2, some 1), (3, some 0), (4, some 1), (5, some 0), (6, some 1), (7, some 0), (8, none), (9, some 1), (10, some 1), (11, some 2), (12, some 1), (13, none), (14, some 2), (15, none)] (by kernel_rfl) (by kernel_rfl) (by kernel_rfl) (by kernel_rfl) (by kernel_rfl) (fun _ _ _ _ _ h => h) ⟨B2.out.cell rfl, H.out.blk.cell rfl, B3.out.cell HSt.out.1, B3.out.cell HSt.out.2⟩ ?_
 simp only [yD, yE, yF, yG]
 (repeat (first | (refine qs_mid (v := ?_) (by rfl) ?_ ?_; rotate_left 1; (· (intro j w' hj1 hj2 hS; go_simp; (try (simp only [↓IntWalk.iteOmega]; go_simp)); (try simp (disch := omega) only [IntWalk.i64_in]); try with_reducible rfl)); simp only [Act.put, yA, yB, yC]) | (refine qs_skip (by rfl) ?_; simp only [Act.put, yA, yB, yC])))
 refine qs_act ?_
 go_wp2_with (go_at_call 42; refine HS.out.mono ?_; rintro e w1 ⟨rfl, hl⟩; have I1 := yH (HE.out.below hl); have A1 := yH (H.out.below hl); have K1 := yH (KpL.below hl); have C4 := yH (K1.out.blk _ _ _ B4.out (by decide)); have C2 := yH (K1.out.blk _ _ _ B2.out (by decide)); have C3 := yH (K1.out.blk _ _ _ B3.out (by decide)); clear hl)
 refine ⟨⟨C2.out.cell rfl, A1.out.blk.cell rfl, C3.out.cell HSt.out.1, C3.out.cell HSt.out.2⟩, ?_⟩
 (repeat (first | (refine qs_mid (v := ?_) (by rfl) ?_ ?_; rotate_left 1; (· (intro j w' hj1 hj2 hS; go_simp; (try (simp only [↓IntWalk.iteOmega]; go_simp)); (try simp (disch := omega) only [IntWalk.i64_in]); try with_reducible rfl)); simp only [Act.put, yA, yB, yC]) | (refine qs_skip (by rfl) ?_; simp only [Act.put, yA, yB, yC])))
 refine qs_act ?_
 go_wp2_with (refine wpl_setD rfl 25 (.tmp 15) (.tmp 13) (by rfl) b4 1 (.slice none 0 0) (by rfl) (by rfl) _ _ C4.out info_bys (by show 1 < 13; omega) (by rfl) (by rfl) ?_; intro w2 hb hg hz; have D4 := yH hb; have T2 := yH (Tch.one hg); have A2 := yH (A1.out.kept C4.out (by decide) (by decide) HG.out T2.out); have D2 := yH (C2.out.tch T2.out (nin1 (blk_ne_tyD C2.out C4.out (by decide)))); have D3 := yH (C3.out.tch T2.out (nin1 (blk_ne_tyD C3.out C4.out (by decide)))); clear hb hg hz)
 refine ⟨⟨D2.out.cell rfl, A2.out.blk.cell rfl, D3.out.cell HSt.out.1, D3.out.cell HSt.out.2⟩, ?_⟩
 (repeat (first | (refine qs_mid (v := ?_) (by rfl) ?_ ?_; rotate_left 1; (· (intro j w' hj1 hj2 hS; go_simp; (try (simp only [↓IntWalk.iteOmega]; go_simp)); (try simp (disch := omega) only [IntWalk.i64_in]); try with_reducible rfl)); simp only [Act.put, yA, yB, yC]) | (refine qs_skip (by rfl) ?_; simp only [Act.put, yA, yB, yC])))
 refine qs_act ?_
 go_wp2_with (refine wpl_setD rfl 38 (.tmp 16) (.tmp 14) (by rfl) b4 0 (.int .i64 0) (by rfl) (by rfl) _ _ D4.out info_err (by show 0 < 13; omega) (by rfl) (by rfl) ?_; intro w3 hb hg hz; have E4 := yH (show Blk w3 b4 70 ((taleE 0 0).vs (.slice none 0 0)) from hb); have T3 := yH (Tch.one hg); have A3 := yH (A2.out.kept D4.out (by decide) (by decide) HG.out T3.out); clear hb hg hz)
 refine ⟨⟨(D2.out.tch T3.out (nin1 (blk_ne_tyD D2.out D4.out (by decide)))).cell rfl, A3.out.blk.cell rfl, (D3.out.tch T3.out (nin1 (blk_ne_tyD D3.out D4.out (by decide)))).cell HSt.out.1, (D3.out.tch T3.out (nin1 (blk_ne_tyD D3.out D4.out (by decide)))).cell HSt.out.2⟩, ?_⟩
 (repeat (first | (refine qs_mid (v := ?_) (by rfl) ?_ ?_; rotate_left 1; (· (intro j w' hj1 hj2 hS; go_simp; (try (simp only [↓IntWalk.iteOmega]; go_simp)); (try simp (disch := omega) only [IntWalk.i64_in]); try with_reducible rfl)); simp only [Act.put, yA, yB, yC]) | (refine qs_skip (by rfl) ?_; simp only [Act.put, yA, yB, yC])))
 refine qs_nil ?_
 go_wp2_with fail
 go_end0
 exact ⟨⟨_, rfl⟩, _, TalO.nil _ _ _, E4.out, A3.out, (EImg.ok w0 i _ _ _ _).alien I1.out (.inl ⟨_, _, C4.out, by decide⟩) (T2.out.trans T3.out), w1, KD.out.trans K1.out, T2.out.trans T3.out⟩
set_option maxRecDepth 100000 in
set_option maxHeartbeats 1000000 in
theorem cl_stat {i : ImI} {N q : Nat} {Y : Hd} {M : SnM} (h : DkA w0 W db v p out dp (.pointer (some ⟨i.x, 0, none⟩)) n) (he : EImg w0 i N q Y M v W) (hM : (sIds M).length = M.length)
  {b2 b4 : Nat} (h2 : Blk W b2 30 #[.pointer (some ⟨db, 0, none⟩)]) (h4 : Blk W b4 70 taleZ) (hge : w0.heap.size ≤ b4) :
  Calls Tryz.prog 59 #[.pointer (some ⟨b2, 0, none⟩), .pointer (some ⟨b4, 0, none⟩)] W fun e w' => (∃ r, e = .returned r) ∧ ∃ T, ClP (EImg w0 i N q Y M) w0 W db v p out dp (.pointer (some ⟨i.x, 0, none⟩)) n b4 ⟨0, 0, 64, 4, 32, 1, 8, 0, 0, 4, 0, sIds M⟩ T w' := by
 have H := yH h
 have HE := yH he
 have H4 := yH h4
 have c2 : W.cell? ⟨b2, 0, none⟩ = some (.pointer (some ⟨db, 0, none⟩)) := h2.cell rfl
 have c3 : W.cell? ⟨db, 3, none⟩ = some (.pointer (some ⟨i.x, 0, none⟩)) := h.blk.cell rfl
 have HS := yH (im_stat (gm := mkV v) he.2)
 have HG := yH hge
 have HL := yH hM
 clear h he h2 h4 hge hM
 go_enter Tryz.func59, Tryz.ntmps59
 go_wp2_with (first
  | (go_at_call 60; refine HS.out.mono ?_; rintro e w1 ⟨A, c, rfl, ho, hl⟩; have I1 := yH (HE.out.below hl); have A1 := yH (H.out.below hl); have K1 := yH (KpL.below hl); have B1 := yH (K1.out.blk _ _ _ H4.out (by decide)); have O1 := yH ho; clear hl ho)
  | (refine wpl_put rfl 68 (.tmp 10) (.tmp 8) (by rfl) b4 3 (stV A M.length c) (by rfl) (by rfl) _ _ B1.out (stV_info _ _ _) (by show 3 + 10 ≤ 13; omega) (stV_one _ _ _) ?_; intro w2 hb hg hz; have B2 := yH hb; have T2 := yH (Tch.one hg); clear hb hg hz; simp only [Act.put, yA, yB, yC])
  | (refine wpl_setD rfl 38 (.tmp 11) (.tmp 9) (by rfl) b4 0 (.int .i64 0) (by rfl) (by rfl) _ _ B2.out info_err (by show 0 < 13; omega) (by rfl) (by rfl) ?_; intro w3 hb hg hz; have B3 := yH (show Blk w3 b4 70 ((⟨0, 0, 64, 4, 32, 1, 8, 0, 0, 4, 0, sIds M⟩ : TaleN).vs (.slice A M.length c)) from hb); have T3 := yH (T2.out.trans (Tch.one hg)); clear hb hg hz; simp only [Act.put, yA, yB, yC]))
 go_end0
 have hO := own_tch1 O1.out B1.out (by decide) T3.out
 refine ⟨⟨_, rfl⟩, _, ⟨A, c, W.heap.size, ?_, ?_⟩, B3.out, A1.out.kept B1.out (by decide) (by decide) HG.out T3.out, (EImg.ok w0 i _ _ _ _).alien I1.out (.inl ⟨_, _, B1.out, by decide⟩) T3.out, w1, K1.out, T3.out⟩
 ·show _ = TaleN.vs _ (.slice A (sIds M).length c)
  rw [HL.out]
 ·show w3.ownsRow _ _ _ (.slice A (sIds M).length c) (sIds M).length _
  rw [HL.out]
  exact hO
end
end Go.Proofs.YtffalfacakdhkaaGreatDoor
namespace Go.Proofs.YtffalfacakdhkaaGreatDoor
open Go.RowKit Go.Maps Go.Shelf
set_option linter.unusedVariables false
set_option linter.unusedSimpArgs false
/-- Beside the builder: a device of m sectors, nothing written, to crash behind z writes. -/
structure DvA (W : World) (d sb ob m : Nat) (z : Int) : Prop where
 blk : Blk W d 113 #[.int .i64 (m : Int), .map (some sb), .map (some ob), .int .i64 z, .bool false]
 safe : MapIs Tryz.prog 3 kD lD vSec W sb []
 opn : MapIs Tryz.prog 3 kD lD vSec W ob []
 ne : sb ≠ ob
 rng : 1 ≤ m ∧ m ≤ 262144
def EArm (w0 : World) (m d sb ob : Nat) (z : Int) (v : Value) (W : World) : Prop := (w0.heap.size ≤ d ∧ w0.heap.size ≤ sb ∧ w0.heap.size ≤ ob) ∧ DvA W d sb ob m z
theorem DvA.tch {W W' : World} {d sb ob m : Nat} {z : Int} {T : List Nat} (h : DvA W d sb ob m z) (hT : Tch T W W') (h1 : d ∉ T) (h2 : sb ∉ T) (h3 : ob ∉ T) : DvA W' d sb ob m z :=
 ⟨h.blk.tch hT h1, h.safe.tch hT h2, h.opn.tch hT h3, h.ne, h.rng⟩
theorem DvA.of {W : World} {d sb ob m : Nat} (h : DkIs W d sb ob m [] []) : DvA W d sb ob m 0 := ⟨h.blk, h.safe, h.opn, h.ne, h.rng⟩
theorem DvA.ok (d sb ob m : Nat) (z : Int) : EnvOk (fun _ W => DvA W d sb ob m z) := by
 refine ⟨fun h hb => h.tch (T := []) (Tch.below hb) (by simp) (by simp) (by simp), fun h ha hT => h.tch hT (ha.blk h.blk (by decide)) (ha.mapI h.safe) (ha.mapI h.opn), fun {v v' W W'} h hv hg _ _ => ?_⟩
 obtain ⟨T, hT, hm⟩ := tch_row hg
 have hn : ∀ b cs t, Blk W b t cs → t ≠ 5 → b ∉ T := fun b cs t hb ht hk => by
  obtain ⟨cs', h'⟩ := hv b (hm b hk)
  exact blk_ne_tyD hb h' ht rfl
 have hp : ∀ {M : SM} {b : Nat}, MapIs Tryz.prog 3 kD lD vSec W b M → b ∉ T := fun {M b} hb hk => by
  obtain ⟨cs', h'⟩ := hv b (hm b hk)
  exact blk_ne_mapD hb h' rfl
 exact h.tch hT (hn _ _ _ h.blk (by decide)) (hp h.safe) (hp h.opn)
theorem EArm.ok (w0 : World) (m d sb ob : Nat) (z : Int) : EnvOk (EArm w0 m d sb ob z) := (DvA.ok d sb ob m z).and
section
variable {w0 W : World} {db : Nat} {v p : Value} {out : List UInt8} {dp xp : Value} {n : Int}
theorem info_bl1 : (Tryz.prog.info? 4).map (·.size) = some 1 := by kernel_rfl
set_option maxRecDepth 100000 in
theorem dv_arm {d sb ob m : Nat} {z : Int} (h : DvA W d sb ob m z) (k : Nat) (hk : k ≤ 1000) : Calls Tryz.prog 62 #[.pointer (some ⟨d, 0, none⟩), .int .i64 (k : Int)] W fun e w' => (∃ r, e = .returned r) ∧ DvA w' d sb ob m (k : Int) ∧ Tch [d] W w' := by
 have H := yH h
 have c4 : W.cell? ⟨d, 4, none⟩ = some (.bool false) := h.blk.cell rfl
 have hmx : max (k : Int) 0 = (k : Int) := by omega
 have hk2 : (0 : Int) ≤ (k : Int) := by omega
 clear h
 go_enter Tryz.func62, Tryz.ntmps62
 go_wp2_with (refine wpl_setD rfl 3 (.tmp 17) (.tmp 15) (by rfl) d 3 (.int .i64 (k : Int)) (by rfl) (by rfl) _ _ H.out.blk info_snp (by show 3 < 5; omega) (by rfl) (by rfl) ?_; intro w3 hb hg hz; have B3 := yH hb; have T3 := yH (Tch.one hg); clear hb hg hz; simp only [Act.put, yA, yB, yC])
 go_end0
 exact ⟨⟨_, rfl⟩, ⟨B3.out, H.out.safe.tch T3.out (nin1 (blk_ne_mapD H.out.safe H.out.blk).symm), H.out.opn.tch T3.out (nin1 (blk_ne_mapD H.out.opn H.out.blk).symm), H.out.ne, H.out.rng⟩, T3.out⟩
set_option maxRecDepth 100000 in
theorem dv_wake {d sb ob m : Nat} {z : Int} (h : DvA W d sb ob m z) (A : Option Addr) (c : Nat) : Calls Tryz.prog 64 #[.pointer (some ⟨d, 0, none⟩), .slice A 0 c] W fun e w' => (∃ r, e = .returned r) ∧ Tch [d, ob] W w' := by
 have H := yH h
 have c0 : W.cell? ⟨d, 0, none⟩ = some (.int .i64 (m : Int)) := h.blk.cell rfl
 have hm0 : ¬ (m : Int) = 0 := by have := h.rng; omega
 clear h
 go_enter Tryz.func64, Tryz.ntmps64
 go_upto_region 2 with (first
  | (refine wpl_setD rfl 4 (.tmp 20) (.const (.bool false)) (by rfl) d 4 (.bool false) (by rfl) (by rfl) _ _ H.out.blk info_bl1 (by show 4 < 5; omega) (by rfl) (by rfl) ?_; intro w2 hb hg hz; have B2 := yH hb; have T2 := yH (Tch.one hg); clear hb hg hz; simp only [Act.put, yA, yB, yC])
  | (refine wpl_setD rfl 3 (.tmp 22) (.const (.int .i64 0)) (by rfl) d 3 (.int .i64 0) (by rfl) (by rfl) _ _ B2.out info_snp (by show 3 < 5; omega) (by rfl) (by rfl) ?_; intro w3 hb hg hz; have B3 := yH hb; have T3 := yH (T2.out.trans (Tch.one hg)); clear hb hg hz; simp only [Act.put, yA, yB, yC]))
 have O3 := yH (H.out.opn.tch T3.out (nin1 (blk_ne_mapD H.out.opn H.out.blk).symm))
 have k2 : w3.cell? ⟨d, 2, none⟩ = some (.map (some ob)) := B3.out.cell rfl
 clear c0 hm0
 go_wp2_with fail
 go_loopg [25] 0 (fun k iv wr => iv = .int .i64 0 ∧ wr = w3)
 case atStart => exact ⟨rfl, rfl⟩
 case round =>
  obtain ⟨rfl, rfl⟩ := hrel
  go_wp2_with (refine wpl_mclear rfl 111 (.tmp 51) rfl Tryz.underlying111 O3.out rfl ?_; intro w4 hmp hg; have T4 := yH (Tch.one hg); clear hmp hg)
  go_end0
  exact ⟨⟨_, rfl⟩, (T3.out.mono (by simp)).trans (T4.out.mono (by simp))⟩
set_option maxRecDepth 100000 in
set_option maxHeartbeats 1000000 in
theorem cl_flush {E : Value → World → Prop} (hE : EnvOk E) (h : DkA w0 W db v p out dp (.pointer none) n) (he : E v W) {b2 b4 : Nat} (h2 : Blk W b2 30 #[.pointer (some ⟨db, 0, none⟩)]) (h4 : Blk W b4 70 taleZ) (hge : w0.heap.size ≤ b4) :
  Calls Tryz.prog 47 #[.pointer (some ⟨b2, 0, none⟩), .pointer (some ⟨b4, 0, none⟩)] W fun e w' => (∃ r, e = .returned r) ∧ ∃ T, ClP E w0 W db v p out dp (.pointer none) n b4 (taleE 1 0) T w' := by
 have H := yH h
 have HE := yH he
 have H4 := yH h4
 have c2 : W.cell? ⟨b2, 0, none⟩ = some (.pointer (some ⟨db, 0, none⟩)) := h2.cell rfl
 have c3 : W.cell? ⟨db, 3, none⟩ = some (.pointer none) := h.blk.cell rfl
 have HG := yH hge
 clear h he h2 h4 hge
 go_enter Tryz.func47, Tryz.ntmps47
 go_wp2_with (first
  | (go_at_call 48; refine (im_flush_nil W).mono ?_; rintro e w1 ⟨rfl, hl⟩; have I1 := yH (hE.below HE.out hl); have A1 := yH (H.out.below hl); have K1 := yH (KpL.below hl); have B1 := yH (K1.out.blk _ _ _ H4.out (by decide)); clear hl)
  | (refine wpl_setD rfl 38 (.tmp 7) (.tmp 6) (by rfl) b4 0 (.int .i64 1) (by rfl) (by rfl) _ _ B1.out info_err (by show 0 < 13; omega) (by rfl) (by rfl) ?_; intro w3 hb hg hz; have B3 := yH (show Blk w3 b4 70 ((taleE 1 0).vs (.slice none 0 0)) from hb); have T3 := yH (Tch.one hg); clear hb hg hz; simp only [Act.put, yA, yB, yC]))
 go_end0
 exact ⟨⟨_, rfl⟩, _, TalO.nil _ _ _, B3.out, A1.out.kept B1.out (by decide) (by decide) HG.out T3.out, hE.alien I1.out (.inl ⟨_, _, B1.out, by decide⟩) T3.out, w1, K1.out, T3.out⟩
theorem DvA.kp {W' : World} {d sb ob m : Nat} {z : Int} (h : DvA W d sb ob m z) (hT : Tch [d, ob] W W') : KpL W W' :=
 KpL.tch hT (fun g t cs hb ht => nin2 (blk_ne_tyD hb h.blk ht.2.2.1.symm) (blk_ne_mapD h.opn hb)) (fun g o ho hc hm hk => by
  simp only [List.mem_cons, List.not_mem_nil, or_false] at hk
  rcases hk with rfl | rfl
  ·have hb := h.blk
   unfold Blk at hb
   rw [hb] at ho
   injection ho with ho
   subst ho
   cases hc
  ·obtain ⟨es, c, e⟩ := h.opn.objD
   rw [e] at ho
   injection ho with ho
   exact hm _ _ ho.symm)
theorem DkA.dev (h : DkA w0 W db v p out dp xp n) {m d sb ob : Nat} {z : Int} (he : EArm w0 m d sb ob z v W) {W' : World} (hT : Tch [d, ob] W W') : DkA w0 W' db v p out dp xp n :=
 h.tch hT (nin2 (blk_ne_tyD h.blk he.2.blk (by decide)) (blk_ne_mapD he.2.opn h.blk)) (fun g hg => by obtain ⟨cs, hb⟩ := h.row g hg; exact nin2 (blk_ne_tyD hb he.2.blk (by decide)) (blk_ne_mapD he.2.opn hb)) (fun k hk => by
  have := he.1
  simp only [List.mem_cons, List.not_mem_nil, or_false] at hk
  rcases hk with rfl | rfl <;> omega)
set_option maxRecDepth 100000 in
set_option maxHeartbeats 1000000 in
theorem cl_arm {m d sb ob : Nat} {z : Int} (k : Nat) (h : DkA w0 W db v p out (.pointer (some ⟨d, 0, none⟩)) xp n) (he : EArm w0 m d sb ob z v W) (hk : k ≤ 1000) (y : StepV) (SB SF : Value) (hy : y.n = (k : Int))
  {b2 b3 b4 : Nat} (h2 : Blk W b2 30 #[.pointer (some ⟨db, 0, none⟩)]) (h3 : Blk W b3 61 (stepVs y SB SF)) (h4 : Blk W b4 70 taleZ) (hge : w0.heap.size ≤ b4) :
  Calls Tryz.prog 61 #[.pointer (some ⟨b2, 0, none⟩), .pointer (some ⟨b3, 0, none⟩)] W fun e w' => (∃ r, e = .returned r) ∧ ∃ T, ClP (EArm w0 m d sb ob (k : Int)) w0 W db v p out (.pointer (some ⟨d, 0, none⟩)) xp n b4 (taleE 0 0) T w' := by
 have H := yH h.drew
 have HE := yH ((EArm.ok w0 m d sb ob z).below he (Below.refl _ W).drew)
 have B4 := yH h4.drew
 have B2 := yH h2.drew
 have B3 := yH h3.drew
 have hSt : (stepVs y SB SF)[2]? = some (.int .i64 (k : Int)) := by rw [← hy]; rfl
 have HSt := yH hSt
 have HS := yH (dv_arm HE.out.2 k hk)
 have HG := yH hge
 have KD := yH (KpL.below (Below.refl W.heap.size W).drew)
 generalize stepVs y SB SF = sv at *
 clear h he h2 h3 h4 hge hSt hy hk
 go_enter Tryz.func61, Tryz.ntmps61
 go_upto_region 0 with fail
 refine wp_region_qs (fun _ w' => w'.cell? ⟨b2, 0, none⟩ = some (.pointer (some ⟨db, 0, none⟩)) ∧ w'.cell? ⟨db, 2, none⟩ = some (.pointer (some ⟨d, 0, none⟩)) ∧ w'.cell? ⟨b3, 2, none⟩ = some (.int .i64 (k : Int))) [(0, some 1), (1, some 1), (2, some 1), (3, some 0), (4, some 1), (5, some 0), (6, none)] (by kernel_rfl) (by kernel_rfl) (by kernel_rfl) (by kernel_rfl) (by kernel_rfl) (fun _ _ _ _ _ h => h) ⟨B2.out.cell rfl, H.out.blk.cell rfl, B3.out.cell HSt.out⟩ ?_
 simp only [yD, yE, yF, yG]
 (repeat (first | (refine qs_mid (v := ?_) (by rfl) ?_ ?_; rotate_left 1; (· (intro j w' hj1 hj2 hS; go_simp; (try (simp only [↓IntWalk.iteOmega]; go_simp)); (try simp (disch := omega) only [IntWalk.i64_in]); try with_reducible rfl)); simp only [Act.put, yA, yB, yC]) | (refine qs_skip (by rfl) ?_; simp only [Act.put, yA, yB, yC])))
 refine qs_act ?_
 go_wp2_with (go_at_call 62; refine HS.out.mono ?_; rintro e w1 ⟨⟨r, rfl⟩, hD, hT⟩; have T1 := yH (show Tch [d, ob] W.drew w1 from hT.mono (by simp)); have I1 := yH (show EArm w0 m d sb ob (k : Int) v w1 from ⟨HE.out.1, hD⟩); have A1 := yH (H.out.dev HE.out T1.out); have K1 := yH (HE.out.2.kp T1.out); have C4 := yH (K1.out.blk _ _ _ B4.out (by decide)); have C2 := yH (K1.out.blk _ _ _ B2.out (by decide)); have C3 := yH (K1.out.blk _ _ _ B3.out (by decide)); clear hD hT)
 refine ⟨⟨C2.out.cell rfl, A1.out.blk.cell rfl, C3.out.cell HSt.out⟩, ?_⟩
 (repeat (first | (refine qs_mid (v := ?_) (by rfl) ?_ ?_; rotate_left 1; (· (intro j w' hj1 hj2 hS; go_simp; (try (simp only [↓IntWalk.iteOmega]; go_simp)); (try simp (disch := omega) only [IntWalk.i64_in]); try with_reducible rfl)); simp only [Act.put, yA, yB, yC]) | (refine qs_skip (by rfl) ?_; simp only [Act.put, yA, yB, yC])))
 refine qs_nil ?_
 go_wp2_with fail
 go_end0
 exact ⟨⟨_, rfl⟩, _, TalO.nil 0 0 _, C4.out, A1.out, I1.out, w1, KD.out.trans K1.out, Tch.below (Below.refl _ _)⟩
set_option maxRecDepth 100000 in
set_option maxHeartbeats 1000000 in
theorem cl_crash {m d sb ob : Nat} {z : Int} (h : DkA w0 W db v p out (.pointer (some ⟨d, 0, none⟩)) xp n) (he : EArm w0 m d sb ob z v W) (y : StepV) (SB : Value) (A : Option Addr) (c : Nat)
  {b2 b3 b4 : Nat} (h2 : Blk W b2 30 #[.pointer (some ⟨db, 0, none⟩)]) (h3 : Blk W b3 61 (stepVs y SB (.slice A 0 c))) (h4 : Blk W b4 70 taleZ) (hge : w0.heap.size ≤ b4) :
  Calls Tryz.prog 63 #[.pointer (some ⟨b2, 0, none⟩), .pointer (some ⟨b3, 0, none⟩)] W fun e w' => (∃ r, e = .returned r) ∧ ∃ T, ClP (fun _ _ => True) w0 W db v p out (.pointer (some ⟨d, 0, none⟩)) (.pointer none) n b4 (taleE 0 0) T w' := by
 have H := yH h.drew
 have HE := yH ((EArm.ok w0 m d sb ob z).below he (Below.refl _ W).drew)
 have B4 := yH h4.drew
 have B2 := yH h2.drew
 have B3 := yH h3.drew
 have HSt := yH (show (stepVs y SB (.slice A 0 c))[5]? = some (.slice A 0 c) from rfl)
 have HS := yH (dv_wake HE.out.2 A c)
 have HG := yH hge
 have KD := yH (KpL.below (Below.refl W.heap.size W).drew)
 generalize stepVs y SB (.slice A 0 c) = sv at *
 clear h he h2 h3 h4 hge
 go_enter Tryz.func63, Tryz.ntmps63
 go_upto_region 0 with fail
 refine wp_region_qs (fun _ w' => w'.cell? ⟨b2, 0, none⟩ = some (.pointer (some ⟨db, 0, none⟩)) ∧ w'.cell? ⟨db, 2, none⟩ = some (.pointer (some ⟨d, 0, none⟩)) ∧ w'.cell? ⟨b3, 5, none⟩ = some (.slice A 0 c)) [(0, some 1), (1, some 1), (2, some 1), (3, some 0), (4, some 1), (5, some 0), (6, none)] (by kernel_rfl) (by kernel_rfl) (by kernel_rfl) (by kernel_rfl) (by kernel_rfl) (fun _ _ _ _ _ h => h) ⟨B2.out.cell rfl, H.out.blk.cell rfl, B3.out.cell HSt.out⟩ ?_
 simp only [yD, yE, yF, yG]
 (repeat (first | (refine qs_mid (v := ?_) (by rfl) ?_ ?_; rotate_left 1; (· (intro j w' hj1 hj2 hS; go_simp; (try (simp only [↓IntWalk.iteOmega]; go_simp)); (try simp (disch := omega) only [IntWalk.i64_in]); try with_reducible rfl)); simp only [Act.put, yA, yB, yC]) | (refine qs_skip (by rfl) ?_; simp only [Act.put, yA, yB, yC])))
 refine qs_act ?_
 go_wp2_with (go_at_call 64; refine HS.out.mono ?_; rintro e w1 ⟨⟨r, rfl⟩, hT⟩; have A1 := yH (H.out.dev HE.out hT); have K1 := yH (HE.out.2.kp hT); have C4 := yH (K1.out.blk _ _ _ B4.out (by decide)); have C2 := yH (K1.out.blk _ _ _ B2.out (by decide)); have C3 := yH (K1.out.blk _ _ _ B3.out (by decide)); clear hT)
 refine ⟨⟨C2.out.cell rfl, A1.out.blk.cell rfl, C3.out.cell HSt.out⟩, ?_⟩
 (repeat (first | (refine qs_mid (v := ?_) (by rfl) ?_ ?_; rotate_left 1; (· (intro j w' hj1 hj2 hS; go_simp; (try (simp only [↓IntWalk.iteOmega]; go_simp)); (try simp (disch := omega) only [IntWalk.i64_in]); try with_reducible rfl)); simp only [Act.put, yA, yB, yC]) | (refine qs_skip (by rfl) ?_; simp only [Act.put, yA, yB, yC])))
 refine qs_nil ?_
 have k2 : w1.cell? ⟨b2, 0, none⟩ = some (.pointer (some ⟨db, 0, none⟩)) := C2.out.cell rfl
 clear B2 B3 B4 HE HS
 go_wp2_with (refine wpl_setD rfl 35 (.tmp 11) (.const (.pointer none)) (by rfl) db 3 (.pointer none) (by rfl) (by rfl) _ _ A1.out.blk info_pim (by show 3 < 5; omega) (by rfl) (by rfl) ?_; intro w3 hb hg hz; have A3 := yH (A1.out.setBlk hb (Tch.one hg) A1.out.self); have K3 := yH ((KD.out.trans K1.out).trans (KpL.one A1.out.blk (by decide) (Tch.one hg))); have E4 := yH (C4.out.tch (Tch.one hg) (nin1 (blk_ne_tyD C4.out A1.out.blk (by decide)))); clear hb hg hz; simp only [Act.put, yA, yB, yC])
 go_end0
 exact ⟨⟨_, rfl⟩, _, TalO.nil 0 0 _, E4.out, A3.out, trivial, w3, K3.out, Tch.below (Below.refl _ _)⟩
end
end Go.Proofs.YtffalfacakdhkaaGreatDoor
