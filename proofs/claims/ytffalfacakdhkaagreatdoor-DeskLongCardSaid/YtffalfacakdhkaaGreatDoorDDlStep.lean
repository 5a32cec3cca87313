/-
  what this claim needs of: DlStep, DlTw (written by cut.py).
-/
import Derived.Test.YtffalfacakdhkaaGreatDoorDDlRead
import Derived.Lib.SplitLaws
import Derived.Test.YtffalfacakdhkaaGreatDoorDDlPlain
import Derived.BigRegion
import Derived.ChangeKeysEq
namespace Go.Proofs.YtffalfacakdhkaaGreatDoor
open Go.RowKit
set_option linter.unusedVariables false
set_option linter.unusedSimpArgs false

theorem words_le : ∀ (l t : List UInt8), t ∈ wordsL l → t.length ≤ l.length
 | [], t, h => by
  simp [wordsL] at h
  subst h
  simp
 | c :: r, t, h => by
  by_cases hc : c = 32
  ·subst hc
   rw [words_space] at h
   rcases List.mem_cons.1 h with rfl | h
   ·simp
   ·have := words_le r t h
    simp only [List.length_cons]; omega
  ·rw [words_other hc] at h
   cases hw : wordsL r with
   | nil => exact absurd hw (words_ne r)
   | cons a b =>
    rw [hw] at h
    simp only [glue, List.mem_cons] at h
    rcases h with rfl | h
    ·have := words_le r a (by rw [hw]; simp)
     simp only [List.length_append, List.length_cons, List.length_nil]; omega
    ·have := words_le r t (by rw [hw]; simp [h])
     simp only [List.length_cons]; omega
theorem split_ws (s : ByteArray) : ∃ w0 ws, Lib.splitB ⟨#[32]⟩ 0 (Lib.countB s ⟨#[32]⟩) s = w0 :: ws ∧ wordsL s.data.toList = w0.data.toList :: lists ws ∧ Lib.countB s ⟨#[32]⟩ = ws.length := by
 have h1 := Lib.splitB_data ⟨#[32]⟩ 0 (Lib.countB s ⟨#[32]⟩) s
 have h2 : Lib.splitK [32] 0 (Lib.countB s ⟨#[32]⟩) s.data.toList = wordsL s.data.toList := split_words _ _ (Nat.le_refl _)
 have h3 := Lib.splitB_all ⟨#[32]⟩ (by decide) 0 (Lib.countB s ⟨#[32]⟩) s rfl
 rw [h2] at h1
 cases hw : Lib.splitB ⟨#[32]⟩ 0 (Lib.countB s ⟨#[32]⟩) s with
 | nil => rw [hw] at h3; simp at h3
 | cons w0 ws =>
  rw [hw] at h1 h3
  exact ⟨w0, ws, rfl, h1.symm, by simp at h3; omega⟩
def StepPostL (l : List UInt8) (w : World) (e : Ending) (w' : World) : Prop :=
 Below w.heap.size w w' ∧ match stepL l with
  | some y => ∃ A c A' c', e = .returned (.tuple #[.agg (stepVs y (.slice A y.bytes.length c) (.slice A' y.fates.length c')), .int .i64 0]) ∧ w'.ownsRow w.heap.size 5 1 (.slice A y.bytes.length c) y.bytes.length (y.bytes.map (Value.int .u8)) ∧ w'.ownsRow w.heap.size 155 1 (.slice A' y.fates.length c') y.fates.length (y.fates.map (Value.int .i64))
  | none => e = .returned (.tuple #[.agg (stepVs (zeroS 0) (.slice none 0 0) (.slice none 0 0)), .int .i64 310])
set_option maxRecDepth 100000 in
set_option maxHeartbeats 1600000 in
theorem step_any (s : ByteArray) (w : World) (ht : LnT w) (hs : s.size ≤ 1048576) :
  Calls Tryz.prog 25 #[.string s] w (StepPostL s.data.toList w) := by
 have HT := yH ht
 clear ht
 obtain ⟨m, hm⟩ := HT.out.mx
 have HM := yH hm
 obtain ⟨w0, ws, hsp, hwd, hcnt⟩ := split_ws s
 have HL := yH (show stepL s.data.toList = readL w0.data.toList (lists ws) by unfold stepL; rw [hwd])
 have hlen : ∀ t ∈ w0 :: ws, t.size ≤ 1048576 := fun t h => by
  have h1 := words_le s.data.toList t.data.toList (by
   rw [hwd]
   rcases List.mem_cons.1 h with rfl | h
   ·simp
   ·exact List.mem_cons.2 (.inr (List.mem_map.2 ⟨t, h, rfl⟩)))
  simp only [Array.length_toList] at h1
  have e1 : t.data.size = t.size := rfl
  have e2 : s.data.size = s.size := rfl
  omega
 have hc := Lib.countB_le ⟨#[32]⟩ (by decide) s.size s (Nat.le_refl _)
 have HSp := yH hsp
 have HC := yH hcnt
 have HLen := yH hlen
 clear hm hsp hwd hcnt hlen
 go_enter Tryz.func25, Tryz.ntmps25
 go_wp2_with fail
 obtain ⟨wa, hwa⟩ : ∃ wa, wa = w.alloc (Obj.cells (stepVs (zeroS 0) (.slice none 0 0) (.slice none 0 0)) 61) := ⟨_, rfl⟩
 have Ka := yH (show Blk wa w.heap.size 61 (stepVs (zeroS 0) (.slice none 0 0) (.slice none 0 0)) by rw [hwa]; exact Blk.made _ _ _)
 have La := yH (show Below w.heap.size w wa by rw [hwa]; exact (Below.refl _ _).alloc (Nat.le_refl _) _)
 unfold stepVs zeroS at hwa
 simp only at hwa
 rw [← hwa]
 clear hwa
 refine (Tryz.strings_Split s ⟨#[32]⟩ m wa (by omega) (cell_low HM.out La.out) (by decide)).mono ?_
 rintro ev wb ⟨rfl, hwb⟩
 rw [HSp.out] at hwb
 have Lb := yH (show Below wa.heap.size wa wb by rw [hwb]; exact (Below.refl _ _).alloc (Nat.le_refl _) _)
 have Wb := yH (show WdAt wb wa.heap.size 0 (w0 :: ws) by
  intro j hj
  rw [hwb, Nat.zero_add]
  refine (Blk.made wa _ _).cell ?_
  rw [List.getElem?_toArray, List.getElem?_map, List.getElem?_eq_getElem hj]; rfl)
 clear hwb
 have Kb := yH (Ka.out.below Lb.out Ka.out.lt)
 have Mb := yH (below_chain La.out Lb.out)
 have hwl : ws.length ≤ 1048576 := by have := HC.out; omega
 rw [HC.out]
 clear hc Ka
 go_wp2_with fail
 refine (read_any w0 ws wa.heap.size 0 (ws.length + 1) (ws.length + 1) wb Wb.out rfl (Nat.le_refl _) (by omega) (fun t h => by have := HLen.out t h; omega) (by omega) (HT.out.below Mb.out)).mono ?_
 rintro ev wc ⟨hbc, he⟩
 have Kc := yH (Kb.out.below hbc Kb.out.lt)
 have Mc := yH (below_chain Mb.out hbc)
 clear hbc Kb
 cases hr : readL w0.data.toList (lists ws) with
 | none =>
  rw [hr] at he
  simp only at he
  obtain ⟨y, A, n, c, A', n', c', rfl⟩ := he
  have HR := yH (HL.out.trans hr)
  clear hr
  unfold stepVs
  go_wp2_with fail
  obtain ⟨wd, hwd⟩ : ∃ wd, wd = wc.alloc (Obj.cells (stepVs y (.slice A n c) (.slice A' n' c')) 61) := ⟨_, rfl⟩
  have Ld := yH (show Below wc.heap.size wc wd by rw [hwd]; exact (Below.refl _ _).alloc (Nat.le_refl _) _)
  unfold stepVs at hwd
  rw [← hwd]
  clear hwd
  have KY := yH (Kc.out.below Ld.out Kc.out.lt)
  have Md := yH (below_chain Mc.out Ld.out)
  refine (is_wrong wd).mono ?_
  rintro ev w' ⟨rfl, rfl⟩
  unfold stepVs zeroS at KY
  have y0 := KY.out.cell (i := 0) rfl
  have z0 := KY.out.free 0
  have y1 := KY.out.cell (i := 1) rfl
  have z1 := KY.out.free 1
  have y2 := KY.out.cell (i := 2) rfl
  have z2 := KY.out.free 2
  have y3 := KY.out.cell (i := 3) rfl
  have z3 := KY.out.free 3
  have y4 := KY.out.cell (i := 4) rfl
  have z4 := KY.out.free 4
  have y5 := KY.out.cell (i := 5) rfl
  have z5 := KY.out.free 5
  go_wp2
  have S6 := six_facts KY.out (.int .u8 0) (.int .i64 0) (.int .i64 0) (.int .i64 0) (.slice none 0 0) (.slice none 0 0)
  refine bodyPost_ret (results_blk_tmp rfl _ w.heap.size rfl _ _ S6.1 _ Tryz.underlying61 rfl 6 infoStep rfl) rfl ?_
  refine ⟨S6.2.1 _ _ Md.out (Nat.le_refl _), ?_⟩
  rw [HR.out]
  rfl
 | some y =>
  rw [hr] at he
  simp only at he
  obtain ⟨B, F, rfl, hB, hF⟩ := he
  obtain ⟨A, c, rfl, _⟩ := own_slice hB
  obtain ⟨A', c', rfl, _⟩ := own_slice hF
  have HB := yH (own_base8 hB Mb.out.size)
  have HF := yH (own_base8 hF Mb.out.size)
  have HR := yH (HL.out.trans hr)
  clear hr hB hF
  unfold stepVs
  go_wp2_with fail
  obtain ⟨wd, hwd⟩ : ∃ wd, wd = wc.alloc (Obj.cells (stepVs y (.slice A y.bytes.length c) (.slice A' y.fates.length c')) 61) := ⟨_, rfl⟩
  have Ld := yH (show Below wc.heap.size wc wd by rw [hwd]; exact (Below.refl _ _).alloc (Nat.le_refl _) _)
  have Kd := yH (show Blk wd wc.heap.size 61 (stepVs y (.slice A y.bytes.length c) (.slice A' y.fates.length c')) by rw [hwd]; exact Blk.made _ _ _)
  unfold stepVs at hwd
  rw [← hwd]
  clear hwd
  have KY := yH (Kc.out.below Ld.out Kc.out.lt)
  have Md := yH (below_chain Mc.out Ld.out)
  have HB2 := yH (own_lo8 HB.out Ld.out)
  have HF2 := yH (own_lo8 HF.out Ld.out)
  refine (is_nil wd).mono ?_
  rintro ev w' ⟨rfl, rfl⟩
  unfold stepVs at Kd
  have x0 := Kd.out.cell (i := 0) rfl
  have x1 := Kd.out.cell (i := 1) rfl
  have x2 := Kd.out.cell (i := 2) rfl
  have x3 := Kd.out.cell (i := 3) rfl
  have x4 := Kd.out.cell (i := 4) rfl
  have x5 := Kd.out.cell (i := 5) rfl
  unfold stepVs zeroS at KY
  have y0 := KY.out.cell (i := 0) rfl
  have z0 := KY.out.free 0
  have y1 := KY.out.cell (i := 1) rfl
  have z1 := KY.out.free 1
  have y2 := KY.out.cell (i := 2) rfl
  have z2 := KY.out.free 2
  have y3 := KY.out.cell (i := 3) rfl
  have z3 := KY.out.free 3
  have y4 := KY.out.cell (i := 4) rfl
  have z4 := KY.out.free 4
  have y5 := KY.out.cell (i := 5) rfl
  have z5 := KY.out.free 5
  go_wp2
  have S6 := six_facts KY.out (.int .u8 y.kind) (.int .i64 y.pos) (.int .i64 y.n) (.int .i64 y.snap) (.slice A y.bytes.length c) (.slice A' y.fates.length c')
  refine bodyPost_ret (results_blk_tmp rfl _ w.heap.size rfl _ _ S6.1 _ Tryz.underlying61 rfl 6 infoStep rfl) rfl ?_
  refine ⟨S6.2.1 _ _ Md.out (Nat.le_refl _), ?_⟩
  rw [HR.out]
  exact ⟨_, _, _, _, rfl, S6.2.2 _ _ _ _ _ _ HB2.out (by decide), S6.2.2 _ _ _ _ _ _ HF2.out (by decide)⟩
end Go.Proofs.YtffalfacakdhkaaGreatDoor
namespace Go.Proofs.YtffalfacakdhkaaGreatDoor
open Go.RowKit
set_option linter.unusedVariables false
set_option linter.unusedSimpArgs false

def taleV (e sn : Int) (B : Value) (v0 v1 v2 v3 v4 v5 v6 v7 v8 : Int) (S : Value) : Array Value :=
 #[.int .i64 e, B, .int .i64 sn, .int .i64 v0, .int .i64 v1, .int .i64 v2, .int .i64 v3, .int .i64 v4, .int .i64 v5, .int .i64 v6, .int .i64 v7, S, .int .i64 v8]
theorem items_step (xs ys : Array Value) (j : Nat) (is : List Nat) (x : Int) (r : Bool) (w : World) (hx : xs[j]? = some (.int .i64 x)) (hy : ys[j]? = some (.int .i64 0)) (h : (Op.eqItems 9999 3 1 xs ys is).run Tryz.prog w = .ok r w) : (Op.eqItems 9999 3 1 xs ys (j :: is)).run Tryz.prog w = .ok (x == 0 && r) w := by
 have hp : ∀ (cs : Array Value) (off : Nat) (v : Value), cs[off]? = some v → (part 3 cs off).run Tryz.prog w = .ok v w := fun cs off v h => by
  simp [part, isAgg, run_underlying Tryz.underlying3, h]
 have e : (Op.equalIn 9999 3 (.int .i64 x) (.int .i64 0)).run Tryz.prog w = .ok (x == 0) w := run_equalIn_int w 9998 3 .i64 .i64 x 0 Tryz.underlying3
 simp only [Op.eqItems, Sem.run_bind, Nat.mul_one, hp _ _ _ hx, hp _ _ _ hy, Result.andThen_ok, e]
 cases x == 0
 ·simp
 ·simpa using h
theorem arr4 (a b c d : Int) (w : World) : (Op.equalIn 10000 161 (.agg #[.int .i64 a, .int .i64 b, .int .i64 c, .int .i64 d]) (.agg #[.int .i64 0, .int .i64 0, .int .i64 0, .int .i64 0])).run Tryz.prog w = .ok (a == 0 && (b == 0 && (c == 0 && (d == 0 && true)))) w := by
 obtain ⟨i, hi, _⟩ := info_parts infoInt
 have hc : Tryz.prog.cellsOf 3 = 1 := by kernel_rfl
 rw [run_equalIn_array w 9999 _ _ Tryz.underlying161 hi, hc]
 exact items_step _ _ 0 _ a _ w rfl rfl (items_step _ _ 1 _ b _ w rfl rfl (items_step _ _ 2 _ c _ w rfl rfl (items_step _ _ 3 _ d _ w rfl rfl rfl)))
theorem some9 (a0 a1 a2 a3 a4 a5 a6 a7 a8 : Int) (sl : List Int) : someL [a0, a1, a2, a3, a4, a5, a6, a7, a8] sl = (a0 != 0 || (a1 != 0 || (a2 != 0 || (a3 != 0 || (a4 != 0 || (!(a5 == 0 && (a6 == 0 && (a7 == 0 && (a8 == 0 && true)))) || !sl.isEmpty)))))) := by
 simp only [someL, List.any_cons, List.any_nil, bne]
 cases a0 == 0 <;> cases a1 == 0 <;> cases a2 == 0 <;> cases a3 == 0 <;> cases a4 == 0 <;> cases a5 == 0 <;> cases a6 == 0 <;> cases a7 == 0 <;> cases a8 == 0 <;> rfl
def statV (v0 v1 v2 v3 v4 v5 v6 v7 v8 : Int) (S : Value) : Array Value := #[.int .i64 v0, .int .i64 v1, .int .i64 v2, .int .i64 v3, .int .i64 v4, .int .i64 v5, .int .i64 v6, .int .i64 v7, S, .int .i64 v8]
def geoV (v0 v1 v2 v3 v4 : Int) : Array Value := #[.int .i64 v0, .int .i64 v1, .int .i64 v2, .int .i64 v3, .int .i64 v4]
def SG (wp : World) (c4 c5 : Array Value) (g4 g5 : Nat) (w' : World) : Prop := g4 ≠ g5 ∧ wp.heap.size ≤ g4 ∧ wp.heap.size ≤ g5 ∧ Blk w' g4 68 c4 ∧ Blk w' g5 66 c5 ∧ Below wp.heap.size wp w'
theorem sg_one (wp : World) (c4 c5 : Array Value) : SG wp c4 c5 wp.heap.size (wp.heap.size + 1) ((wp.alloc (.cells c4 68)).alloc (.cells c5 66)).drew :=
 ⟨by omega, Nat.le_refl _, by omega, ((Blk.made _ _ _).alloc _).drew, (Blk.made_at _ _ _ (by simp)).drew, (((Below.refl _ _).alloc (Nat.le_refl _) _).alloc (by simp) _).drew⟩
theorem sg_two (wp : World) (c4 c5 : Array Value) : SG wp c4 c5 (wp.heap.size + 1) wp.heap.size ((wp.alloc (.cells c5 66)).alloc (.cells c4 68)).drew :=
 ⟨by omega, by omega, Nat.le_refl _, (Blk.made_at _ _ _ (by simp)).drew, ((Blk.made _ _ _).alloc _).drew, (((Below.refl _ _).alloc (Nat.le_refl _) _).alloc (by simp) _).drew⟩
/-- Where the tale lies, and what has been told so far. -/
def TS (w : World) (g0 : Nat) (cs : Array Value) (X : List UInt8) (s : ByteArray) (w' : World) : Prop := s = ⟨X.toArray⟩ ∧ Blk w' g0 70 cs ∧ Below w.heap.size w w' ∧ w.heap.size ≤ g0 ∧ g0 < w'.heap.size
theorem TS.next {w w1 w2 : World} {g0 : Nat} {cs : Array Value} {X Y : List UInt8} {s s' : ByteArray} (h : TS w g0 cs X s w1) (hb : Below w1.heap.size w1 w2) (hs : s' = ⟨Y.toArray⟩) : TS w g0 cs Y s' w2 :=
 ⟨hs, h.2.1.below hb h.2.2.2.2, below_chain h.2.2.1 hb, h.2.2.2.1, Nat.lt_of_lt_of_le h.2.2.2.2 hb.size⟩
set_option maxRecDepth 100000 in
set_option maxHeartbeats 4800000 in
theorem tell_any (e sn : Int) (bs : List Int) (BA SA : Option Addr) (bn bc snn sc : Nat) (v0 v1 v2 v3 v4 v5 v6 v7 v8 : Int) (sl : List Int) (w : World) (hB : RdI .u8 w BA bn bs) (hS : RdI .i64 w SA snn sl) (ht : LnT w) (hb : By bs) (hsl : ∀ z ∈ sl, i64b z) (he : i64b e) (hsn : i64b sn) (hnum : ∀ z ∈ [v0, v1, v2, v3, v4, v5, v6, v7, v8], i64b z) (hbn : bn ≤ 1000000) (hsnn : snn ≤ 100000) :
  Calls Tryz.prog 40 #[.agg (taleV e sn (.slice BA bn bc) v0 v1 v2 v3 v4 v5 v6 v7 v8 (.slice SA snn sc))] w fun ev w' => ev = .returned (.string ⟨(tellL e sn [v0, v1, v2, v3, v4, v5, v6, v7, v8] sl bs).toArray⟩) ∧ Below w.heap.size w w' := by
 have HT := yH ht
 have HBB := yH hB
 have HSS := yH hS
 obtain ⟨cs, hcs⟩ : ∃ cs, cs = taleV e sn (.slice BA bn bc) v0 v1 v2 v3 v4 v5 v6 v7 v8 (.slice SA snn sc) := ⟨_, rfl⟩
 have HCs := yH hcs
 unfold taleV
 clear ht hB hS hcs
 go_enter Tryz.func40, Tryz.ntmps40
 -- the tale is laid
 refine wp_meet (fun a (g0 : Nat) => (a.put (some 1) (.pointer (some ⟨g0, 0, none⟩))).put (some 2) (.string ⟨#[]⟩)) (fun g0 => TS w g0 cs okW ⟨okW.toArray⟩) ?_ ?_
 ·go_wp2
  refine ⟨rfl, ?_, (Below.refl _ _).alloc (Nat.le_refl _) _, Nat.le_refl _, by simp⟩
  rw [HCs.out]
  exact Blk.made _ _ _
 intro g0 w0 h0
 have H0 := yH h0
 clear h0
 simp only [Act.put, List.setIfInBounds_toArray, List.set_cons_zero, List.set_cons_succ]
 refine wp_meet (fun a (_ : Unit) => a.put (some 3) (.string ⟨okW.toArray⟩)) (fun _ w' => w' = w0) ?_ ?_
 ·go_wp2
  rfl
 rintro _ w1 rfl
 simp only [Act.put, List.setIfInBounds_toArray, List.set_cons_zero, List.set_cons_succ]
 -- an error
 refine wp_meet (fun a (x : ByteArray × Value × Value × Value × Value) => (((((((a.put (some 7) (.pointer (some ⟨g0, 0, none⟩))).put (some 8) (.int .i64 e)).put (some 9) (.bool (e != 0))).put (some 10) x.2.1).put (some 11) x.2.2.1).put (some 12) x.2.2.2.1).put (some 13) x.2.2.2.2).put (some 3) (.string x.1)) (fun x => TS w g0 cs (if e = 0 then okW else rowL errW [e]) x.1) ?_ ?_
 ·have K := H0.out.2.1
  rw [HCs.out] at K
  unfold taleV at K
  have k0 := K.cell (i := 0) rfl
  have K' := yH K
  clear K
  by_cases h : e = 0
  ·have h' : (e != 0) = false := by simpa using h
   go_wp2
   exact H0.out
  ·have h' : (e != 0) = true := by simpa using h
   go_wp2_with fail
   have Kb := rd_new [e] (Blk.made w1 3 #[Value.int IntKind.i64 e]) rfl (n := 1) rfl
   obtain ⟨wa, hwa⟩ : ∃ wa, wa = w1.alloc (Obj.cells #[Value.int IntKind.i64 e] 3) := ⟨_, rfl⟩
   have La := yH (show Below w1.heap.size w1 wa by rw [hwa]; exact (Below.refl _ _).alloc (Nat.le_refl _) _)
   have Ra := yH (show RdI .i64 wa (some ⟨w1.heap.size, 0, none⟩) 1 [e] by rw [hwa]; exact Kb)
   rw [← hwa]
   clear hwa Kb
   refine (row_anyL errW [e] _ 1 1 wa Ra.out (fun z hz => by rw [List.mem_singleton] at hz; subst hz; exact he) (by omega) (by decide) ((HT.out.below H0.out.2.2.1).below La.out)).mono ?_
   rintro ev wb ⟨rfl, hbb⟩
   go_wp2
   exact H0.out.next (below_chain La.out hbb) rfl
 rintro ⟨s1, x10, x11, x12, x13⟩ w2 h2
 have hl1 : (if e = 0 then okW else rowL errW [e]).length ≤ 100 := by
  have := rowL_len (word := errW) (ns := [e]) (fun z hz => by rw [List.mem_singleton] at hz; subst hz; exact he)
  split
  ·decide
  ·simp only [List.length_cons, List.length_nil] at this; have e5 : errW.length = 5 := rfl; omega
 generalize hX1 : (if e = 0 then okW else rowL errW [e]) = X1 at *
 have HX1 := yH hX1
 clear hX1
 have H2 := yH h2
 clear h2 H0
 simp only [Act.put, List.setIfInBounds_toArray, List.set_cons_zero, List.set_cons_succ]
 -- a snapshot
 refine wp_meet (fun a (x : ByteArray × Value × Value × Value × Value × Value × Value) => (((((((((a.put (some 14) (.pointer (some ⟨g0, 2, none⟩))).put (some 15) (.int .i64 sn)).put (some 16) (.bool (sn != 0))).put (some 17) x.2.1).put (some 18) x.2.2.1).put (some 19) x.2.2.2.1).put (some 20) x.2.2.2.2.1).put (some 21) x.2.2.2.2.2.1).put (some 22) x.2.2.2.2.2.2).put (some 3) (.string x.1)) (fun x => TS w g0 cs (X1 ++ (if sn = 0 then [] else rowL (32 :: snapW) [sn])) x.1) ?_ ?_
 ·have K := H2.out.2.1
  rw [HCs.out] at K
  unfold taleV at K
  have k0 := K.cell (i := 2) rfl
  have K' := yH K
  clear K
  obtain rfl := H2.out.1
  by_cases h : sn = 0
  ·have h' : (sn != 0) = false := by simpa using h
   go_wp2
   exact H2.out
  ·have h' : (sn != 0) = true := by simpa using h
   go_wp2_with fail
   have Kb := rd_new [sn] (Blk.made w2 3 #[Value.int IntKind.i64 sn]) rfl (n := 1) rfl
   obtain ⟨wa, hwa⟩ : ∃ wa, wa = w2.alloc (Obj.cells #[Value.int IntKind.i64 sn] 3) := ⟨_, rfl⟩
   have La := yH (show Below w2.heap.size w2 wa by rw [hwa]; exact (Below.refl _ _).alloc (Nat.le_refl _) _)
   have Ra := yH (show RdI .i64 wa (some ⟨w2.heap.size, 0, none⟩) 1 [sn] by rw [hwa]; exact Kb)
   rw [← hwa]
   clear hwa Kb
   refine (row_anyL (32 :: snapW) [sn] _ 1 1 wa Ra.out (fun z hz => by rw [List.mem_singleton] at hz; subst hz; exact hsn) (by omega) (by decide) ((HT.out.below H2.out.2.2.1).below La.out)).mono ?_
   rintro ev wb ⟨rfl, hbb⟩
   have hl2 : (rowL (32 :: snapW) [sn]).length ≤ 100 := by
    have := rowL_len (word := 32 :: snapW) (ns := [sn]) (fun z hz => by rw [List.mem_singleton] at hz; subst hz; exact hsn)
    simp only [List.length_cons, List.length_nil] at this
    have e5 : snapW.length = 4 := rfl
    omega
   have hs1 : ¬ 9223372036854775807 < X1.length + (rowL (32 :: snapW) [sn]).length := by omega
   go_wp2
   exact H2.out.next (below_chain La.out hbb) (cat_list _ _)
 rintro ⟨s2, x17, x18, x19, x20, x21, x22⟩ w3 h3
 have hl2 : (X1 ++ (if sn = 0 then [] else rowL (32 :: snapW) [sn])).length ≤ 200 := by
  have := rowL_len (word := 32 :: snapW) (ns := [sn]) (fun z hz => by rw [List.mem_singleton] at hz; subst hz; exact hsn)
  simp only [List.length_cons, List.length_nil] at this
  have e5 : snapW.length = 4 := rfl
  rw [List.length_append]
  split
  ·simp only [List.length_nil]; omega
  ·omega
 generalize hX2 : X1 ++ (if sn = 0 then [] else rowL (32 :: snapW) [sn]) = X2 at *
 have HX2 := yH hX2
 clear hX2
 have H3 := yH h3
 clear h3 H2
 simp only [Act.put, List.setIfInBounds_toArray, List.set_cons_zero, List.set_cons_succ]
 -- the copies
 refine wp_meet (fun a (x : Nat × Nat) => (((((((a.put (some 23) (.pointer (some ⟨g0, 3, none⟩))).put (some 24) (.agg (statV v0 v1 v2 v3 v4 v5 v6 v7 v8 (.slice SA snn sc)))).put (some 25) (.pointer (some ⟨g0, 3, none⟩))).put (some 26) (.pointer (some ⟨g0, 3, none⟩))).put (some 27) (.agg (geoV v0 v1 v2 v3 v4))).put (some 4) (.pointer (some ⟨x.1, 0, none⟩))).put (some 5) (.pointer (some ⟨x.2, 0, none⟩))))
  (fun x => SG w3 (statV v0 v1 v2 v3 v4 v5 v6 v7 v8 (.slice SA snn sc)) (geoV v0 v1 v2 v3 v4) x.1 x.2) ?_ ?_
 ·have K := H3.out.2.1
  rw [HCs.out] at K
  unfold taleV at K
  have k3 := K.cell (i := 3) rfl
  have a3 := cell_al k3
  have b3 := cell_al2 k3
  have k4 := K.cell (i := 4) rfl
  have a4 := cell_al k4
  have b4 := cell_al2 k4
  have k5 := K.cell (i := 5) rfl
  have a5 := cell_al k5
  have b5 := cell_al2 k5
  have k6 := K.cell (i := 6) rfl
  have a6 := cell_al k6
  have b6 := cell_al2 k6
  have k7 := K.cell (i := 7) rfl
  have a7 := cell_al k7
  have b7 := cell_al2 k7
  have k8 := K.cell (i := 8) rfl
  have a8 := cell_al k8
  have b8 := cell_al2 k8
  have k9 := K.cell (i := 9) rfl
  have a9 := cell_al k9
  have b9 := cell_al2 k9
  have k10 := K.cell (i := 10) rfl
  have a10 := cell_al k10
  have b10 := cell_al2 k10
  have k11 := K.cell (i := 11) rfl
  have a11 := cell_al k11
  have b11 := cell_al2 k11
  have k12 := K.cell (i := 12) rfl
  have a12 := cell_al k12
  have b12 := cell_al2 k12
  clear K
  go_region
  ·exact ⟨rfl, (_, _), rfl, sg_one _ _ _⟩
  ·exact ⟨rfl, (_, _), rfl, sg_two _ _ _⟩
 rintro ⟨g4, g5⟩ w4 ⟨hne, hg4, hg5, b4, b5, hb4⟩
 simp only at hne hg4 hg5 b4 b5
 unfold statV at b4
 unfold geoV at b5
 have B4 := yH b4
 have B5 := yH b5
 have H4 := yH (H3.out.next hb4 H3.out.1)
 clear b4 b5 hb4 H3
 unfold statV geoV
 simp only [Act.put, List.setIfInBounds_toArray, List.set_cons_zero, List.set_cons_succ]
 refine wp_meet (fun a (x : Nat) => ((((((((((a.put (some 28) (.pointer (some ⟨g4, 5, none⟩))).put (some 29) (.int .i64 v5)).put (some 30) (.pointer (some ⟨g4, 6, none⟩))).put (some 31) (.int .i64 v6)).put (some 32) (.pointer (some ⟨g4, 7, none⟩))).put (some 33) (.int .i64 v7)).put (some 34) (.pointer (some ⟨g4, 9, none⟩))).put (some 35) (.int .i64 v8)).put (some 36) (.agg #[.int .i64 v5, .int .i64 v6, .int .i64 v7, .int .i64 v8])).put (some 6) (.pointer (some ⟨x, 0, none⟩)))) (fun g6 w' => Blk w' g6 161 #[.int .i64 v5, .int .i64 v6, .int .i64 v7, .int .i64 v8] ∧ Below w4.heap.size w4 w') ?_ ?_
 ·have k5 := B4.out.cell (i := 5) rfl
  have k6 := B4.out.cell (i := 6) rfl
  have k7 := B4.out.cell (i := 7) rfl
  have k9 := B4.out.cell (i := 9) rfl
  go_wp2
  exact ⟨Blk.made _ _ _, (Below.refl _ _).alloc (Nat.le_refl _) _⟩
 rintro g6 w5 ⟨b6, hb5⟩
 have B6 := yH b6
 have B4' := yH (B4.out.below hb5 B4.out.lt)
 have B5' := yH (B5.out.below hb5 B5.out.lt)
 have H5 := yH (H4.out.next hb5 H4.out.1)
 clear b6 hb5 B4 B5 H4
 simp only [Act.put, List.setIfInBounds_toArray, List.set_cons_zero, List.set_cons_succ]
 -- what an image is like
 refine wp_seq ?_
 refine wp_meet (fun a (x : Bool × Bool × Value × Value × Value × Value × Value × Value × Value) => (((((((((((((((a.put (some 37) (.agg (geoV v0 v1 v2 v3 v4))).put (some 38) (.agg (geoV 0 0 0 0 0))).put (some 39) (.bool x.1)).put (some 40) (.bool x.1)).put (some 41) x.2.2.1).put (some 42) x.2.2.2.1).put (some 43) x.2.2.2.2.1).put (some 44) (.bool x.2.1)).put (some 45) (.bool x.2.1)).put (some 46) x.2.2.2.2.2.1).put (some 47) x.2.2.2.2.2.2.1).put (some 48) x.2.2.2.2.2.2.2.1).put (some 49) x.2.2.2.2.2.2.2.2)).put (some 50) (.bool (someL [v0, v1, v2, v3, v4, v5, v6, v7, v8] sl)))) (fun x w' => w' = w5) ?_ ?_
 ·obtain rfl := H5.out.1
  have k8 := B4'.out.cell (i := 8) rfl
  have j0 := B5'.out.cell (i := 0) rfl
  have j1 := B5'.out.cell (i := 1) rfl
  have j2 := B5'.out.cell (i := 2) rfl
  have j3 := B5'.out.cell (i := 3) rfl
  have j4 := B5'.out.cell (i := 4) rfl
  have i0 := B6.out.cell (i := 0) rfl
  have i1 := B6.out.cell (i := 1) rfl
  have i2 := B6.out.cell (i := 2) rfl
  have i3 := B6.out.cell (i := 3) rfl
  unfold geoV
  have hsl0 : decide (0 < snn) = !sl.isEmpty := by
   have := HSS.out.1
   cases sl with
   | nil => simp at this; subst this; rfl
   | cons z l => simp at this; simp; omega
  have hr4 := arr4 v5 v6 v7 v8
  generalize hr : (v5 == 0 && (v6 == 0 && (v7 == 0 && (v8 == 0 && true)))) = r4 at hr4
  have HR := yH hr
  clear hr
  cases r4
  ·go_wp2
   all_goals first
    | (rw [some9, HR.out]; simp [*])
    | trace_state
  ·go_wp2
   all_goals first
    | (rw [some9, HR.out]; simp [*])
    | trace_state
 rintro ⟨b1, b2, x41, x42, x43, x46, x47, x48, x49⟩ w6 rfl
 unfold geoV
 simp only [Act.put, List.setIfInBounds_toArray, List.set_cons_zero, List.set_cons_succ]
 have HX3 := yH (show tellL e sn [v0, v1, v2, v3, v4, v5, v6, v7, v8] sl bs = X2 ++ statL [v0, v1, v2, v3, v4, v5, v6, v7, v8] sl ++ (if bs = [] then [] else 32 :: bytesW ++ 32 :: hexL bs) by
  unfold tellL
  rw [HX1.out, HX2.out])
 have hbl : bs.length = bn := HBB.out.1
 have hhl := hexL_len bs
 cases hsm : someL [v0, v1, v2, v3, v4, v5, v6, v7, v8] sl with
 | false =>
  have HX4 := yH (show X2 = X2 ++ statL [v0, v1, v2, v3, v4, v5, v6, v7, v8] sl by unfold statL; rw [hsm]; simp)
  clear hsm
  have hlX : X2.length ≤ 3000000 := by omega
  have HZ := H5
  clear H5 B4' B5' B6
  generalize w6 = wz at *
  generalize s2 = sZ at *
  have K := HZ.out.2.1
  rw [HCs.out] at K
  unfold taleV at K
  have k1 := K.cell (i := 1) rfl
  have HK := yH K
  clear K
  obtain rfl := HZ.out.1
  by_cases hb0 : bn = 0
  ·have d0 : decide ((0 : Int) < (bn : Int)) = false := by simp; omega
   have d1 : decide (0 < bn) = false := by simp; omega
   go_wp2
   go_ret
   refine ⟨?_, HZ.out.2.2.1⟩
   have hbe : bs = [] := List.eq_nil_of_length_eq_zero (by omega)
   rw [HX3.out, ← HX4.out, if_pos hbe, List.append_nil]
   rfl
  ·have hI : (0 : Int) < (bn : Int) := by omega
   have d1 : decide (0 < bn) = true := by simp; omega
   go_wp2_with fail
   refine (hex_any bs BA bn bc wz (HBB.out.below HZ.out.2.2.1) hb hbn).mono ?_
   rintro ev wy ⟨rfl, hby⟩
   have Ly := yH (below_chain HZ.out.2.2.1 hby)
   clear hby
   have hs1 : ¬ 9223372036854775807 < 7 + (hexL bs).length := by omega
   have hs2 : ¬ 9223372036854775807 < X2.length + (7 + (hexL bs).length) := by omega
   go_wp2
   go_ret
   refine ⟨?_, Ly.out⟩
   have hbe : bs ≠ [] := fun h => by rw [h] at hbl; simp at hbl; omega
   have efin : (⟨(X2 ++ (32 :: bytesW ++ 32 :: hexL bs)).toArray⟩ : ByteArray) = ⟨(X2).toArray⟩ ++ (⟨#[32, 98, 121, 116, 101, 115, 32]⟩ ++ ⟨(hexL bs).toArray⟩) := by
    have e1 : (⟨#[32, 98, 121, 116, 101, 115, 32]⟩ : ByteArray) ++ ⟨(hexL bs).toArray⟩ = ⟨([32, 98, 121, 116, 101, 115, 32] ++ hexL bs).toArray⟩ := cat_list _ _
    rw [e1, cat_list]
    rfl
   rw [HX3.out, ← HX4.out, if_neg hbe, efin]
   rfl
 | true =>
  have HSm := yH hsm
  clear hsm
  obtain rfl := H5.out.1
  have k8 := B4'.out.cell (i := 8) rfl
  have j0 := B5'.out.cell (i := 0) rfl
  have j1 := B5'.out.cell (i := 1) rfl
  have j2 := B5'.out.cell (i := 2) rfl
  have j3 := B5'.out.cell (i := 3) rfl
  have j4 := B5'.out.cell (i := 4) rfl
  go_wp2
  refine wp_region_qs (fun _ w' => w'.cell? ⟨g5, 0, none⟩ = some (.int .i64 v0) ∧ w'.cell? ⟨g5, 1, none⟩ = some (.int .i64 v1) ∧ w'.cell? ⟨g5, 2, none⟩ = some (.int .i64 v2) ∧ w'.cell? ⟨g5, 3, none⟩ = some (.int .i64 v3) ∧ w'.cell? ⟨g5, 4, none⟩ = some (.int .i64 v4) ∧ w'.cell? ⟨g4, 8, none⟩ = some (.slice SA snn sc)) [(0, some 4), (1, some 4), (2, some 3), (3, some 4), (4, some 3), (5, some 4), (6, some 3), (7, some 4), (8, some 3), (9, some 4), (10, some 3), (13, some 3), (16, some 4), (17, some 3), (11, none), (12, none), (14, none), (15, some 4), (18, none), (19, some 4), (20, some 4), (21, some 4)] (by kernel_rfl) (by kernel_rfl) (by kernel_rfl) (by kernel_rfl) (by kernel_rfl) (fun _ _ _ _ _ h => h) ⟨j0, j1, j2, j3, j4, k8⟩ ?_
  simp only [yD, yE, yF, yG]
  (repeat (first | (refine qs_mid (v := ?_) (by rfl) ?_ ?_; rotate_left 1; (· (intro j w' hj1 hj2 hS; go_simp; (try (simp only [↓IntWalk.iteOmega]; go_simp)); (try simp (disch := omega) only [IntWalk.i64_in]); try with_reducible rfl)); simp only [Act.put, yA, yB, yC]) | (refine qs_skip (by rfl) ?_; simp only [Act.put, yA, yB, yC])))
  refine qs_act ?_
  go_wp2
  have Kb := rd_new [v0, v1, v2, v3, v4] (Blk.made w6 3 #[Value.int IntKind.i64 v0, Value.int IntKind.i64 v1, Value.int IntKind.i64 v2, Value.int IntKind.i64 v3, Value.int IntKind.i64 v4]).drew rfl (n := 5) rfl
  obtain ⟨wa, hwa⟩ : ∃ wa, wa = (w6.alloc (Obj.cells #[Value.int IntKind.i64 v0, Value.int IntKind.i64 v1, Value.int IntKind.i64 v2, Value.int IntKind.i64 v3, Value.int IntKind.i64 v4] 3)).drew := ⟨_, rfl⟩
  have La := yH (show Below w6.heap.size w6 wa by rw [hwa]; exact ((Below.refl _ _).alloc (Nat.le_refl _) _).drew)
  have Ra := yH (show RdI .i64 wa (some ⟨w6.heap.size, 0, none⟩) 5 [v0, v1, v2, v3, v4] by rw [hwa]; exact Kb)
  rw [← hwa]
  clear hwa Kb
  have HT6 := yH (HT.out.below H5.out.2.2.1)
  have a0 := cell_low j0 La.out
  have a1 := cell_low j1 La.out
  have a2 := cell_low j2 La.out
  have a3 := cell_low j3 La.out
  have a4 := cell_low j4 La.out
  have a8 := cell_low k8 La.out
  refine ⟨⟨a0, a1, a2, a3, a4, a8⟩, ?_⟩
  refine qs_act ?_
  clear j0 j1 j2 j3 j4 k8
  have hr1 := rowL_len (word := 32 :: statW) (ns := [v0, v1, v2, v3, v4]) (fun z hz => hnum z (by simp at hz ⊢; rcases hz with h | h | h | h | h <;> simp [h]))
  have hr2 := rowL_len (word := []) (ns := [v5, v6, v7, v8]) (fun z hz => hnum z (by simp at hz ⊢; rcases hz with h | h | h | h <;> simp [h]))
  have hr3 := rowL_len (word := []) (ns := sl) hsl
  have hslen : sl.length = snn := HSS.out.1
  simp only [List.length_cons, List.length_nil] at hr1 hr2 hr3
  have e5 : statW.length = 4 := rfl
  go_wp2_with fail
  refine (row_anyL (32 :: statW) [v0, v1, v2, v3, v4] _ 5 5 wa Ra.out (fun z hz => hnum z (by simp at hz ⊢; rcases hz with h | h | h | h | h <;> simp [h])) (by omega) (by decide) (HT6.out.below La.out)).mono ?_
  rintro ev wb ⟨rfl, hbb⟩
  have Lb := yH (below_chain La.out hbb)
  have c0 := cell_low a0 hbb
  have c1 := cell_low a1 hbb
  have c2 := cell_low a2 hbb
  have c3 := cell_low a3 hbb
  have c4 := cell_low a4 hbb
  have c8 := cell_low a8 hbb
  clear a0 a1 a2 a3 a4 a8 hbb
  go_wp2
  refine ⟨⟨c0, c1, c2, c3, c4, c8⟩, ?_⟩
  refine qs_act ?_
  have Rb := yH (rd_new [v5, v6, v7, v8] (B6.out.below Lb.out B6.out.lt) rfl (n := 4) rfl)
  go_wp2_with fail
  refine (row_anyL [] [v5, v6, v7, v8] _ 4 4 wb Rb.out (fun z hz => hnum z (by simp at hz ⊢; rcases hz with h | h | h | h <;> simp [h])) (by omega) (by decide) (HT6.out.below Lb.out)).mono ?_
  rintro ev wc ⟨rfl, hbc⟩
  have Lc := yH (below_chain Lb.out hbc)
  have d0 := cell_low c0 hbc
  have d1 := cell_low c1 hbc
  have d2 := cell_low c2 hbc
  have d3 := cell_low c3 hbc
  have d4 := cell_low c4 hbc
  have d8 := cell_low c8 hbc
  clear c0 c1 c2 c3 c4 c8 hbc
  go_wp2
  refine ⟨⟨d0, d1, d2, d3, d4, d8⟩, ?_⟩
  have hs1 : ¬ 9223372036854775807 < (rowL (32 :: statW) [v0, v1, v2, v3, v4]).length + (rowL [] [v5, v6, v7, v8]).length := by omega
  (repeat (first | (refine qs_mid (v := ?_) (by rfl) ?_ ?_; rotate_left 1; (· (intro j w' hj1 hj2 hS; go_simp; (try (simp only [↓IntWalk.iteOmega]; go_simp)); (try simp (disch := omega) only [IntWalk.i64_in]); try with_reducible rfl)); simp only [Act.put, yA, yB, yC]) | (refine qs_skip (by rfl) ?_; simp only [Act.put, yA, yB, yC])))
  refine qs_act ?_
  go_wp2_with fail
  refine (row_anyL [] sl SA snn sc wc ((HSS.out.below H5.out.2.2.1).below Lc.out) hsl hsnn (by decide) (HT6.out.below Lc.out)).mono ?_
  rintro ev wd ⟨rfl, hbd⟩
  have Ld := yH (below_chain Lc.out hbd)
  have f0 := cell_low d0 hbd
  have f1 := cell_low d1 hbd
  have f2 := cell_low d2 hbd
  have f3 := cell_low d3 hbd
  have f4 := cell_low d4 hbd
  have f8 := cell_low d8 hbd
  clear d0 d1 d2 d3 d4 d8 hbd
  go_wp2
  refine ⟨⟨f0, f1, f2, f3, f4, f8⟩, ?_⟩
  have hs2 : ¬ 9223372036854775807 < (rowL (32 :: statW) [v0, v1, v2, v3, v4]).length + (rowL [] [v5, v6, v7, v8]).length + (rowL [] sl).length := by omega
  have hs3 : ¬ 9223372036854775807 < X2.length + ((rowL (32 :: statW) [v0, v1, v2, v3, v4]).length + (rowL [] [v5, v6, v7, v8]).length + (rowL [] sl).length) := by omega
  (repeat (first | (refine qs_mid (v := ?_) (by rfl) ?_ ?_; rotate_left 1; (· (intro j w' hj1 hj2 hS; go_simp; (try (simp only [↓IntWalk.iteOmega]; go_simp)); (try simp (disch := omega) only [IntWalk.i64_in]); try with_reducible rfl)); simp only [Act.put, yA, yB, yC]) | (refine qs_skip (by rfl) ?_; simp only [Act.put, yA, yB, yC])))
  refine qs_nil ?_
  simp only [cat_list]
  have hx4 : X2 ++ (rowL (32 :: statW) [v0, v1, v2, v3, v4] ++ rowL [] [v5, v6, v7, v8] ++ rowL [] sl) = X2 ++ statL [v0, v1, v2, v3, v4, v5, v6, v7, v8] sl := by
   unfold statL
   rw [if_pos HSm.out]
   simp [rowL]
  have hlX : (X2 ++ (rowL (32 :: statW) [v0, v1, v2, v3, v4] ++ rowL [] [v5, v6, v7, v8] ++ rowL [] sl)).length ≤ 3000000 := by
   simp only [List.length_append]
   omega
  have HZ := yH (H5.out.next Ld.out (Y := X2 ++ (rowL (32 :: statW) [v0, v1, v2, v3, v4] ++ rowL [] [v5, v6, v7, v8] ++ rowL [] sl)) rfl)
  clear H5 B4' B5' B6 f0 f1 f2 f3 f4 f8 La Lb Lc Ld Ra Rb hs1 hs2 hs3 hr1 hr2 hr3
  generalize X2 ++ (rowL (32 :: statW) [v0, v1, v2, v3, v4] ++ rowL [] [v5, v6, v7, v8] ++ rowL [] sl) = X3 at *
  have HX4 := yH hx4
  clear hx4
  generalize wd = wz at *
  obtain ⟨sZ, hsZ⟩ : ∃ sZ : ByteArray, sZ = ⟨X3.toArray⟩ := ⟨_, rfl⟩
  rw [← hsZ] at HZ ⊢
  clear hsZ
  have K := HZ.out.2.1
  rw [HCs.out] at K
  unfold taleV at K
  have k1 := K.cell (i := 1) rfl
  have HK := yH K
  clear K
  obtain rfl := HZ.out.1
  by_cases hb0 : bn = 0
  ·have d0 : decide ((0 : Int) < (bn : Int)) = false := by simp; omega
   have d1 : decide (0 < bn) = false := by simp; omega
   go_wp2
   go_ret
   refine ⟨?_, HZ.out.2.2.1⟩
   have hbe : bs = [] := List.eq_nil_of_length_eq_zero (by omega)
   rw [HX3.out, ← HX4.out, if_pos hbe, List.append_nil]
   rfl
  ·have hI : (0 : Int) < (bn : Int) := by omega
   have d1 : decide (0 < bn) = true := by simp; omega
   go_wp2_with fail
   refine (hex_any bs BA bn bc wz (HBB.out.below HZ.out.2.2.1) hb hbn).mono ?_
   rintro ev wy ⟨rfl, hby⟩
   have Ly := yH (below_chain HZ.out.2.2.1 hby)
   clear hby
   have hs1 : ¬ 9223372036854775807 < 7 + (hexL bs).length := by omega
   have hs2 : ¬ 9223372036854775807 < X3.length + (7 + (hexL bs).length) := by omega
   go_wp2
   go_ret
   refine ⟨?_, Ly.out⟩
   have hbe : bs ≠ [] := fun h => by rw [h] at hbl; simp at hbl; omega
   have efin : (⟨(X3 ++ (32 :: bytesW ++ 32 :: hexL bs)).toArray⟩ : ByteArray) = ⟨(X3).toArray⟩ ++ (⟨#[32, 98, 121, 116, 101, 115, 32]⟩ ++ ⟨(hexL bs).toArray⟩) := by
    have e1 : (⟨#[32, 98, 121, 116, 101, 115, 32]⟩ : ByteArray) ++ ⟨(hexL bs).toArray⟩ = ⟨([32, 98, 121, 116, 101, 115, 32] ++ hexL bs).toArray⟩ := cat_list _ _
    rw [e1, cat_list]
    rfl
   rw [HX3.out, ← HX4.out, if_neg hbe, efin]
   rfl
end Go.Proofs.YtffalfacakdhkaaGreatDoor
