/-
  what this claim needs of: QnD, QnD2, QnD3, QnD4, QnC (written by cut.py).
-/
import Derived.Test.YtffalfacakdhkaaGreatDoorDStW
import Derived.Laws.Cover3
import Derived.MapKept
import Derived.Lib.SliceRun
namespace Go.Proofs.YtffalfacakdhkaaGreatDoor
open Go.RowKit Go.Maps
set_option linter.unusedVariables false
set_option linter.unusedSimpArgs false

abbrev Sec := {s : List Int // s.length = 512 ∧ ∀ z ∈ s, 0 ≤ z ∧ z < 256}
def secL (s : Sec) : List Value := s.1.map (Value.int .u8)
theorem secL_len (s : Sec) : (secL s).length = 512 := by simp [secL, s.2.1]
theorem secL_one (s : Sec) : ∀ v ∈ secL s, v.oneCell' = true := by
 intro v hv
 obtain ⟨z, _, rfl⟩ := List.mem_map.1 hv
 rfl
def vSec (s : Sec) : Value := .agg (secL s).toArray
def zSec : Sec := ⟨List.replicate 512 0, List.length_replicate, fun z hz => by have := List.eq_of_mem_replicate hz; omega⟩
def kD (n : Int) : Value := .int .i64 n
def lD (n : Int) : Lit := .int .i64 n
theorem lD_inj {β : Type} {M : List (Int × β)} (x : Int) : ∀ p ∈ M, lD p.1 = lD x → p.1 = x := fun p _ h => by unfold lD at h; injection h
theorem lD_inj2 {β : Type} {M : List (Int × β)} : ∀ p ∈ M, ∀ q ∈ M, lD p.1 = lD q.1 → p.1 = q.1 := fun p _ q _ h => by unfold lD at h; injection h
theorem key_D {n : Int} (h : -9223372036854775808 ≤ n ∧ n ≤ 9223372036854775807) : keyOf Tryz.prog 3 (kD n) = some (lD n) := keyOf_i64 h
theorem sec_info (s : Sec) : (Tryz.prog.info? 185).map (·.size) = some (secL s).length := by rw [secL_len]; kernel_rfl
theorem zsec_eq : Tryz.zeroCells185 = (secL zSec).toArray := by kernel_rfl
theorem zsec_cells : (Value.agg Tryz.zeroCells185).cells = (secL zSec).toArray := by rw [zsec_eq]; rfl
theorem zsec_size : (Value.agg Tryz.zeroCells185).cells.size = 512 := by rw [zsec_cells]; simp [secL_len]
theorem zero_sec (u : World) : (zeroValue 185).run Tryz.prog u = .ok (vSec zSec) u := by
 have h := Tryz.zeroValue185 u
 rw [zsec_eq] at h
 exact h
abbrev SM := List (Int × Sec)
/-- A sector's latest. -/
def latD (S O : SM) (i : Int) : Sec := ((aget O i).orElse fun _ => aget S i).getD zSec
def dkC (n : Nat) (sb ob : Nat) : List Value := [.int .i64 (n : Int), .map (some sb), .map (some ob), .int .i64 0, .bool false]
/-- A disk that is up, and is not to crash. -/
structure DkIs (w : World) (d sb ob n : Nat) (S O : SM) : Prop where
 blk : Blk w d 113 (dkC n sb ob).toArray
 safe : MapIs Tryz.prog 3 kD lD vSec w sb S
 opn : MapIs Tryz.prog 3 kD lD vSec w ob O
 ne : sb ≠ ob
 rng : 1 ≤ n ∧ n ≤ 262144
section
variable {w w' : World} {d sb ob n : Nat} {S O : SM}
theorem MapIs.objD {α β : Type} [DecidableEq α] {P : Program} {k : TypeId} {kv : α → Value} {kl : α → Lit} {ve : β → Value} {w : World} {b : Nat} {M : List (α × β)} (h : MapIs P k kv kl ve w b M) : ∃ es c, w.heap[b]? = some (.map es c) := by
 obtain ⟨es, ⟨es', clock, hb, _⟩, _⟩ := h
 exact ⟨_, _, hb⟩
theorem blk_ne_mapD {α β : Type} [DecidableEq α] {P : Program} {k : TypeId} {kv : α → Value} {kl : α → Lit} {ve : β → Value} {w : World} {b g : Nat} {t : TypeId} {cs : Array Value} {M : List (α × β)} (h : MapIs P k kv kl ve w b M) (hb : Blk w g t cs) : g ≠ b := by
 obtain ⟨es, c, e⟩ := h.objD
 rintro rfl
 unfold Blk at hb
 rw [e] at hb
 cases hb
theorem DkIs.tch {T : List Nat} (h : DkIs w d sb ob n S O) (hT : Tch T w w') (h0 : d ∉ T) (h1 : sb ∉ T) (h2 : ob ∉ T) : DkIs w' d sb ob n S O := ⟨h.blk.tch hT h0, h.safe.tch hT h1, h.opn.tch hT h2, h.ne, h.rng⟩
theorem DkIs.below (h : DkIs w d sb ob n S O) (hb : Below w.heap.size w w') : DkIs w' d sb ob n S O := h.tch (T := []) (Tch.below hb) (by simp) (by simp) (by simp)
theorem DkIs.drew (h : DkIs w d sb ob n S O) : DkIs w.drew d sb ob n S O := h.below (Below.refl _ _).drew
theorem DkIs.c0 (h : DkIs w d sb ob n S O) : w.cell? ⟨d, 0, none⟩ = some (.int .i64 (n : Int)) := h.blk.cell rfl
theorem DkIs.c1 (h : DkIs w d sb ob n S O) : w.cell? ⟨d, 1, none⟩ = some (.map (some sb)) := h.blk.cell rfl
theorem DkIs.c2 (h : DkIs w d sb ob n S O) : w.cell? ⟨d, 2, none⟩ = some (.map (some ob)) := h.blk.cell rfl
theorem DkIs.c3 (h : DkIs w d sb ob n S O) : w.cell? ⟨d, 3, none⟩ = some (.int .i64 0) := h.blk.cell rfl
theorem DkIs.c4 (h : DkIs w d sb ob n S O) : w.cell? ⟨d, 4, none⟩ = some (.bool false) := h.blk.cell rfl
theorem dk_sectors (h : DkIs w d sb ob n S O) : Calls Tryz.prog 73 #[.pointer (some ⟨d, 0, none⟩)] w fun e w' => e = .returned (.int .i64 (n : Int)) ∧ w = w' := by
 have c0 := h.c0
 clear h
 go_enter Tryz.func73, Tryz.ntmps73
 go_wp2
 go_ret
 exact ⟨rfl, rfl⟩
theorem dk_down (h : DkIs w d sb ob n S O) : Calls Tryz.prog 87 #[.pointer (some ⟨d, 0, none⟩)] w fun e w' => e = .returned (.bool false) ∧ w = w' := by
 have c4 := h.c4
 clear h
 go_enter Tryz.func87, Tryz.ntmps87
 go_wp2
 go_ret
 exact ⟨rfl, rfl⟩
theorem dk_may (h : DkIs w d sb ob n S O) (i : Nat) (hi : i < n) : Calls Tryz.prog 206 #[.pointer (some ⟨d, 0, none⟩), .int .i64 (i : Int)] w fun e w' => e = .returned (.int .i64 0) ∧ w = w' := by
 have c0 := h.c0
 have c4 := h.c4
 have e0 : ((n : Int) == 0) = false := beq_eq_false_iff_ne.2 (by omega)
 have e1 : ¬ (n : Int) = 0 := by omega
 have e2 : ¬ (i : Int) < 0 := by omega
 have e3 : ¬ (n : Int) ≤ (i : Int) := by omega
 clear h
 go_enter Tryz.func206, Tryz.ntmps206
 go_wp2
 go_ret
 exact ⟨rfl, rfl⟩
theorem dk_crash (h : DkIs w d sb ob n S O) : Calls Tryz.prog 207 #[.pointer (some ⟨d, 0, none⟩)] w fun e w' => e = .returned (.bool false) ∧ w = w' := by
 have c3 := h.c3
 have c4 := h.c4
 clear h
 go_enter Tryz.func207, Tryz.ntmps207
 go_wp2
 go_ret
 exact ⟨rfl, rfl⟩
theorem latD_some {i : Int} {s : Sec} (h : aget O i = some s) : latD S O i = s := by unfold latD; rw [h]; rfl
theorem latD_none {i : Int} (h : aget O i = none) : latD S O i = (aget S i).getD zSec := by unfold latD; rw [h]; rfl
theorem vSec_get (o : Option Sec) : (o.map vSec).getD (vSec zSec) = .agg (secL (o.getD zSec)).toArray := by cases o <;> rfl
set_option maxRecDepth 100000 in
set_option maxHeartbeats 1000000 in
theorem dk_latest (h : DkIs w d sb ob n S O) (i : Int) (hi : -9223372036854775808 ≤ i ∧ i ≤ 9223372036854775807) : Calls Tryz.prog 377 #[.pointer (some ⟨d, 0, none⟩), .int .i64 i] w fun e w' => e = .returned (.agg (secL (latD S O i)).toArray) ∧ Below w.heap.size w w' := by
 have D0 := yH h
 have HI := yH hi
 clear h hi
 obtain ⟨x, hx⟩ : ∃ x, (aget O i).getD zSec = x := ⟨_, rfl⟩
 obtain ⟨b, hb⟩ : ∃ b, (aget O i).isSome = b := ⟨_, rfl⟩
 obtain ⟨y, hy⟩ : ∃ y, (aget S i).getD zSec = y := ⟨_, rfl⟩
 have HX := yH hx
 have HB := yH hb
 have HY := yH hy
 have HT := yH (show b = true → latD S O i = x from fun h => by
  subst h
  obtain ⟨s, hs⟩ := Option.isSome_iff_exists.1 hb
  rw [latD_some hs, ← hx, hs]
  rfl)
 have HF := yH (show b = false → latD S O i = y from fun h => by
  subst h
  rw [latD_none (by cases hq : aget O i with | none => rfl | some s => rw [hq] at hb; cases hb), hy])
 clear hx hb hy
 go_enter Tryz.func377, Tryz.ntmps377
 go_upto_region 2 with
  (first
   | (refine wpl_over rfl 185 (.tmp 5) (.tmp 14) (by rfl) w1.heap.size (secL x) (by rfl) (by rfl) _ _ B2.out (sec_info _) (by rw [C2.out, secL_len]) (secL_one _) ?_; intro w3 hk hg hz; have B3 := yH hk; have A3 := yH (A2.out.grown hg (by have := N1.out; simp; omega)); have L3 := yH (bl_g L2.out hg (by have := N1.out; omega)); have D3 := yH (D0.out.below L3.out); clear hk hg hz; simp only [Act.put, yA, yB, yC])
   | (refine wpl_alloc rfl 185 (by rfl) Tryz.zeroValue185 512 zsec_size ?_; intro w2 cs2 hk hc hg hz; have C2 := yH hc; have B2 := yH hk; have A2 := yH (A1.out.grown hg (by simp)); have L2 := yH (bl_n L1.out hg); clear hk hc hg hz; simp only [Act.put, yA, yB, yC])
   | (refine wpl_mlookOk rfl 111 (.tmp 11) (.tmp 12) (by rfl) keyed_int Tryz.underlying111 M1.out (by rfl) i (by rfl) zero_sec (lD_inj i) (key_D HI.out) ?_; rewrite [vSec_get, HX.out, HB.out]; simp only [Act.put, yA, yB, yC])
   | (refine wpl_alloc rfl 185 (by rfl) Tryz.zeroValue185 512 zsec_size ?_; intro w1 cs1 hk hc hg hz; have C1 := yH hc; have A1 := yH hk; have N1 := yH (show w.heap.size < w1.heap.size by omega); have L1 := yH (bl_n (Below.refl _ _) hg); have D1 := yH (D0.out.below L1.out); have M1 := yH D1.out.opn; have c2 := D1.out.c2; clear hk hc hg hz; simp only [Act.put, yA, yB, yC]))
 cases b with
 | true =>
  go_wp2_with (first
   | (refine wpl_over rfl 185 (.tmp 4) (.tmp 17) (by rfl) w.heap.size (secL x) (by rfl) (by rfl) _ _ A3.out (sec_info _) (by rw [C1.out, secL_len]) (secL_one _) ?_; intro w4 hk hg hz; have A4 := yH hk; have L4 := yH (bl_g L3.out hg (Nat.le_refl _)); clear hk hg hz; simp only [Act.put, yA, yB, yC])
   | (refine wpList_load_mid rfl 185 (.tmp 5) (by rfl) w1.heap.size 0 (by rfl) (secL x) _ (by have := B3.out.range; rwa [List.toList_toArray] at this) Tryz.underlying185 rfl (sec_info _) ?_; simp only [Act.put, yA, yB, yC]))
  (try simp only [Exit.inBlock, Exit.then]); refine bodyPost_ret (results_blk (by rfl) _ w.heap.size (by rfl) 185 _ A4.out _ Tryz.underlying185 rfl 512 (by kernel_rfl) (by simp [secL_len])) rfl ?_
  exact ⟨by rw [HT.out (by trivial)], L4.out⟩
 | false =>
  have M3 := yH D3.out.safe
  have c1 := D3.out.c1
  go_wp2_with (first
   | (refine wpl_over rfl 185 (.tmp 4) (.tmp 23) (by rfl) w.heap.size (secL y) (by rfl) (by rfl) _ _ A3.out (sec_info _) (by rw [C1.out, secL_len]) (secL_one _) ?_; intro w4 hk hg hz; have A4 := yH hk; have L4 := yH (bl_g L3.out hg (Nat.le_refl _)); clear hk hg hz; simp only [Act.put, yA, yB, yC])
   | (refine wpl_mlook rfl 111 (.tmp 21) (.tmp 22) (by rfl) keyed_int Tryz.underlying111 M3.out (by rfl) i (by rfl) zero_sec (lD_inj i) (key_D HI.out) ?_; rewrite [vSec_get, HY.out]; simp only [Act.put, yA, yB, yC]))
  (try simp only [Exit.inBlock, Exit.then]); refine bodyPost_ret (results_blk (by rfl) _ w.heap.size (by rfl) 185 _ A4.out _ Tryz.underlying185 rfl 512 (by kernel_rfl) (by simp [secL_len])) rfl ?_
  exact ⟨by rw [HF.out (by trivial)], L4.out⟩
end
end Go.Proofs.YtffalfacakdhkaaGreatDoor
namespace Go.Proofs.YtffalfacakdhkaaGreatDoor
open Go.RowKit Go.Maps
set_option linter.unusedVariables false
set_option linter.unusedSimpArgs false
section
variable {P : Program} {w : World} {ops : Array Oper} {rest : List Oper} {o : Oper} {a : Act} {Q : Exit → Act → World → Prop}
/-- An empty slice literal. -/
theorem wpl_lit0D (hg : o.guard = none) (t e : TypeId) (hop : o.op = .buildSlice t 0 #[]) (hu : P.underlying t = some (.slice e)) {z : Value} {sz bytes : Nat}
  (hi : (P.info? e).map (fun i => (i.zero, i.size, i.bytes)) = some (some z, sz, bytes)) (base : Nat) (hbase : base ≤ w.heap.size)
  (hK : ∀ v w1, w1.ownsRow base e sz v 0 [] → w.grownBy w1 none → wpList P ops Q rest (a.put o.dst v) w1) : wpList P ops Q (o :: rest) a w := by
 obtain ⟨i0, hi', hz0, hz1, hz2⟩ := info_parts hi
 refine wpList_plain hg fun K hK2 => ?_
 unfold Oper.wp execOp
 have hr : (Instr.buildSlice t 0 (Array.map (fun x : Nat × Operand => (x.1, a.eval x.2)) #[])).run P w = .ok (.slice (some ⟨w.heap.size, 0, none⟩) 0 0) (w.alloc (.cells #[] e)) := by
  have e0 : Array.range 0 = #[] := by simp
  simp [Instr.buildSlice, run_underlying hu, sizeOf, typeInfo, hi', Instr.fill, newRow]
  rw [e0]
  simp
 simp only [hop, Sem.run_bind, hr, Result.andThen_ok]
 refine hK2 _ _ (hK _ _ ?_ (World.grownBy_alloc w _ none))
 exact ⟨by simp, .inr ⟨w.heap.size, 0, #[], rfl, hbase, Blk.made _ _ _, Nat.le_refl _, Nat.zero_le _, by simp, by simp⟩⟩
theorem u8_one {zs : List Int} : ∀ y ∈ zs.map (Value.int .u8), y.oneCell' = true := by
 intro y hy
 obtain ⟨z, _, rfl⟩ := List.mem_map.1 hy
 rfl
end
theorem own_atD {w : World} {base n sz : Nat} {e : TypeId} {v : Value} {xs : List Value} (h : w.ownsRow base e sz v n xs) : ∀ b, v.ownBlock = some b → base ≤ b ∧ b < w.heap.size := by
 intro b hv
 rcases h.2 with ⟨rfl, _⟩ | ⟨g', cap, cur, rfl, h0, h1, _⟩
 ·cases hv
 ·injection hv with hv
  simp only at hv
  subst hv
  exact ⟨h0, Blk.lt (t := e) (cs := cur) h1⟩
theorem slice_sec (b : Nat) (W : World) : (Instr.sliceAt 185 (.pointer (some ⟨b, 0, none⟩)) none none none).run Tryz.prog W = .ok (.slice (some ⟨b, 0, none⟩) 512 512) W := by
 have hu : Tryz.prog.underlying 185 = some (.array (Tryz.prog.arrayLen 185) (Tryz.prog.elem 185)) := by kernel_rfl
 have hl : Tryz.prog.arrayLen 185 = 512 := by kernel_rfl
 have he : Tryz.prog.elem 185 = 5 := by kernel_rfl
 rw [run_sliceAt_array_all W _ _ hu, hl, he, Tryz.sizeOf5]
 simp only [Result.andThen_ok, slicedAt]
 simp [Addr.add_mid]
theorem wpl_slsec {w : World} {ops : Array Oper} {rest : List Oper} {o : Oper} {a : Act} {Q : Exit → Act → World → Prop} (hg : o.guard = none) (x : Operand) (hop : o.op = .slice 185 x none none none) (b : Nat) (hx : a.eval x = .pointer (some ⟨b, 0, none⟩)) (hK : wpList Tryz.prog ops Q rest (a.put o.dst (.slice (some ⟨b, 0, none⟩) 512 512)) w) : wpList Tryz.prog ops Q (o :: rest) a w := by
 refine wpList_plain hg fun K hK2 => ?_
 unfold Oper.wp execOp
 simp only [hop, hx, Option.map_none, Sem.run_bind, slice_sec, Result.andThen_ok, Sem.run_pure]
 exact hK2 _ _ hK
theorem Blk.srcSec {w : World} {g : Nat} {t : TypeId} {x : Sec} (h : Blk w g t (secL x).toArray) (c : Nat) : Src w 1 (.slice (some ⟨g, 0, none⟩) 512 c) 512 (secL x) := by
 refine ⟨some ⟨g, 0, none⟩, c, rfl, by rw [secL_len], fun _ => ⟨g, 0, rfl, h.lt, fun j y hy => ?_⟩⟩
 refine h.cell ?_
 rw [Nat.zero_add]
 simpa using hy
section
variable {w w' : World} {d sb ob n : Nat} {S O : SM}
/-- A sector's bytes, in a row of their own. -/
def SecPost (x : Sec) (w : World) (e : Ending) (w' : World) : Prop := ∃ v, e = .returned (.tuple #[v, .int .i64 0]) ∧ w'.ownsRow w.heap.size 5 1 v 512 (secL x) ∧ Below w.heap.size w w'
set_option maxRecDepth 100000 in
set_option maxHeartbeats 1000000 in
theorem dk_read (h : DkIs w d sb ob n S O) (i : Nat) (hi : i < n) : Calls Tryz.prog 313 #[.pointer (some ⟨d, 0, none⟩), .int .i64 (i : Int)] w (SecPost (latD S O i) w) := by
 have D0 := yH h
 have HI := yH hi
 obtain ⟨x, hx⟩ : ∃ x, x = latD S O i := ⟨_, rfl⟩
 have HL := yH (fun W (hW : DkIs W d sb ob n S O) => dk_latest hW (i : Int) (by have := h.rng; omega))
 rw [← hx] at HL
 rw [← hx]
 clear h hi hx
 go_enter Tryz.func313, Tryz.ntmps313
 go_wp2_with (first
  | (refine app_src rfl (.tmp 17) (.tmp 18) 25 (by rfl) w.heap.size 5 _ 1 1 Tryz.underlying25 infoByte rfl (by omega) v5 0 [] (by rfl) O5.out _ 512 (secL x) (by rfl) (B5.out.srcSec 512) (secL_one x) (by omega) (by omega) L5.out.size ?_; intro v6 w6 ho hg _; have O6 := yH ho; have L6 := yH (L5.out.grown hg L5.out.size (fun k hk => (own_atD O5.out k hk).1)); clear ho hg; simp only [Act.put, yA, yB, yC])
  | (refine wpl_slsec rfl (.tmp 7) (by rfl) w2.heap.size (by rfl) ?_; simp only [Act.put, yA, yB, yC])
  | (refine wpl_lit0D rfl 25 5 (by rfl) Tryz.underlying25 infoByte w.heap.size (by have := L4.out.size; omega) ?_; intro v5 w5 ho hg; have O5 := yH ho; have B5 := yH (B4.out.grown hg (by simp)); have L5 := yH (bl_n L4.out hg); clear ho hg; simp only [Act.put, yA, yB, yC])
  | (refine wpl_over rfl 185 (.tmp 7) (.tmp 16) (by rfl) w2.heap.size (secL x) (by rfl) (by rfl) _ _ B3.out (sec_info _) (by rw [C3.out, secL_len]) (secL_one _) ?_; intro w4 hk hg hz; have B4 := yH hk; have L4 := yH (bl_g L3.out hg L2.out.size); clear hk hg hz; simp only [Act.put, yA, yB, yC])
  | (refine wpl_alloc rfl 185 (by rfl) Tryz.zeroValue185 512 zsec_size ?_; intro w3 cs3 hk hc hg hz; have C3 := yH hc; have B3 := yH hk; have L3 := yH (bl_n L2.out hg); clear hk hc hg hz; simp only [Act.put, yA, yB, yC])
  | (go_at_call 377; refine (HL.out _ D0.out).mono ?_; rintro e w2 ⟨rfl, hb⟩; have L2 := yH hb; have D2 := yH (D0.out.below hb); clear hb)
  | (go_at_call 206; refine (dk_may D0.out i HI.out).mono ?_; rintro e w1 ⟨rfl, rfl⟩))
 go_ret2
 obtain ⟨A6, c6, hv, _⟩ := own_slice O6.out
 exact ⟨v6, rfl, by simpa using O6.out, L6.out⟩
end
end Go.Proofs.YtffalfacakdhkaaGreatDoor
namespace Go.Proofs.YtffalfacakdhkaaGreatDoor
open Go.RowKit Go.Maps
set_option linter.unusedVariables false
set_option linter.unusedSimpArgs false
section
variable {w w' : World} {d sb ob n : Nat} {S O : SM}
/-- Bytes that lie in a row of bytes. -/
def BSrc (w : World) (A : Option Addr) (m : Nat) (ys : List Value) : Prop := ∃ b off cs, A = some ⟨b, off, none⟩ ∧ Blk w b 5 cs ∧ (cs.toList.drop off).take m = ys ∧ ys.length = m
theorem BSrc.rng {A : Option Addr} {m : Nat} {ys : List Value} (h : BSrc w A m ys) : ∃ b off, A = some ⟨b, off, none⟩ ∧ w.rangeAt b off ys ∧ (∃ cs, Blk w b 5 cs) := by
 obtain ⟨b, off, cs, e, hb, ht, hl⟩ := h
 refine ⟨b, off, e, fun j v hv => hb.cell ?_, cs, hb⟩
 rw [← ht, List.getElem?_take] at hv
 split at hv
 ·rw [List.getElem?_drop] at hv
  simpa using hv
 ·cases hv
theorem BSrc.src {A : Option Addr} {m c : Nat} {ys : List Value} (h : BSrc w A m ys) : Src w 1 (.slice A m c) m ys := by
 obtain ⟨b, off, e, hr, cs, hb⟩ := h.rng
 obtain ⟨_, _, _, _, _, _, hl⟩ := h
 exact ⟨A, c, rfl, by omega, fun _ => ⟨b, off, e, hb.lt, hr⟩⟩
theorem BSrc.tch {A : Option Addr} {m : Nat} {ys : List Value} {T : List Nat} (h : BSrc w A m ys) (hT : Tch T w w') (hn : ∀ b cs, Blk w b 5 cs → b ∉ T) : BSrc w' A m ys := by
 obtain ⟨b, off, cs, e, hb, ht, hl⟩ := h
 exact ⟨b, off, cs, e, hb.tch hT (hn b cs hb), ht, hl⟩
theorem BSrc.below {A : Option Addr} {m : Nat} {ys : List Value} (h : BSrc w A m ys) (hb : Below w.heap.size w w') : BSrc w' A m ys := h.tch (T := []) (Tch.below hb) (by simp)
theorem BSrc.of_own {base n : Nat} {A : Option Addr} {c : Nat} {xs : List Value} (h : w.ownsRow base 5 1 (.slice A n c) n xs) (hn : 0 < n) : BSrc w A n xs := by
 have hl := h.1
 rcases h.2 with ⟨e, h0⟩ | ⟨g, cap, cur, e, _, hg, hc, _, _, ht⟩
 ·omega
 ·injection e with e1 e2 e3
  subst e1
  refine ⟨g, 0, cur, rfl, hg, ?_, by omega⟩
  rw [List.drop_zero, ← ht, Nat.mul_one]
theorem BSrc.part {b off : Nat} {m : Nat} {ys : List Value} (h : BSrc w (some ⟨b, off, none⟩) m ys) (p q : Nat) (hpq : p + q ≤ m) : BSrc w (some ⟨b, off + p, none⟩) q ((ys.drop p).take q) := by
 obtain ⟨b', off', cs, e, hb, ht, hl⟩ := h
 injection e with e
 injection e with e1 e2
 subst e1 e2
 refine ⟨b, off + p, cs, rfl, hb, ?_, by rw [List.length_take, List.length_drop]; omega⟩
 rw [← ht, List.drop_take, List.drop_drop, List.take_take]
 congr 1
 omega
theorem DkIs.put {i : Int} {x : Sec} (h : DkIs w d sb ob n S O) (hm : MapIs Tryz.prog 3 kD lD vSec w' ob (aput O i x)) (hg : w.grownBy w' (some ob)) : DkIs w' d sb ob n S (aput O i x) :=
 ⟨h.blk.grown hg (by have := blk_ne_mapD h.opn h.blk; simpa using this), h.safe.kept hg (by simpa using h.ne), hm, h.ne, h.rng⟩
def WrPostQ (w : World) (d sb ob n : Nat) (S O : SM) (i : Int) (x : Sec) (e : Ending) (w' : World) : Prop := e = .returned (.int .i64 0) ∧ DkIs w' d sb ob n S (aput O i x) ∧ Tch [ob] w w'
set_option maxRecDepth 100000 in
theorem dk_write (h : DkIs w d sb ob n S O) (i : Nat) (hi : i < n) {A : Option Addr} {c : Nat} {x : Sec} (hs : BSrc w A 512 (secL x)) (hO : O.length ≤ 1000000) :
  Calls Tryz.prog 204 #[.pointer (some ⟨d, 0, none⟩), .int .i64 (i : Int), .slice A 512 c] w (WrPostQ w d sb ob n S O i x) := by
 obtain ⟨b, off, rfl, hr, cs, hbl⟩ := hs.rng
 have HB := yH hbl
 have HS := yH hs
 have D0 := yH h
 have HI := yH hi
 have RX := yH hr
 have HO := yH hO
 have HN := yH (show (i : Int) ≤ 262144 by have := h.rng; omega)
 have c2 := h.c2
 clear h hi hs hr hO hbl
 have hAr := fun W : World => run_arrayAt (P := Tryz.prog) (w := W) 185 5 512 (some ⟨b, off, none⟩) 512 c Tryz.underlying185 (by omega)
 go_enter Tryz.func204, Tryz.ntmps204
 go_upto_region 6 with (go_at_call 206; refine (dk_may D0.out i HI.out).mono ?_; rintro e w1 ⟨rfl, rfl⟩)
 refine wp_region_qs (fun _ w' => w'.rangeAt b off (secL x) ∧ w'.cell? ⟨d, 2, none⟩ = some (.map (some ob))) [(0, some 0), (1, some 0), (2, some 0), (3, some 0), (4, some 0), (5, some 0), (6, some 0), (7, some 0), (8, none)] (by kernel_rfl) (by kernel_rfl) (by kernel_rfl) (by kernel_rfl) (by kernel_rfl) (fun _ _ _ _ _ h => h) ⟨RX.out, c2⟩ ?_
 simp only [yD, yE, yF, yG]
 (repeat (first | ((refine qs_row (by rfl) 185 (.tmp 23) (by rfl) b off (by rfl) (secL x) _ (fun j w' _ h2 h => h.1) Tryz.underlying185 rfl (sec_info _) ?_); simp only [Act.put, yA, yB, yC]) | (refine qs_mid (v := ?_) (by rfl) ?_ ?_; rotate_left 1; (· (intro j w' hj1 hj2 hS; go_simp; (try (simp only [↓IntWalk.iteOmega]; go_simp)); (try simp (disch := omega) only [IntWalk.i64_in]); try with_reducible rfl)); simp only [Act.put, yA, yB, yC]) | (refine qs_skip (by rfl) ?_; simp only [Act.put, yA, yB, yC])))
 refine qs_act ?_
 go_wp2_with (refine wpl_mput rfl 111 (.tmp 20) (.tmp 21) (.tmp 24) (by rfl) keyed_int Tryz.underlying111 D0.out.drew.opn (by have := HO.out; unfold maxLen; omega) (by rfl) (i : Int) (by rfl) x (by rfl) (lD_inj _) (key_D (by have := HN.out; omega)) ?_; intro w2 hm hg; have D2 := yH (D0.out.drew.put hm hg); have T2 := yH (show Tch [ob] w w2 from (Tch.below (Below.refl _ _).drew).trans (Tch.grown hg (fun k hk => by injection hk with hk; subst hk; exact .inl (by simp)))); clear hm hg; simp only [Act.put, yA, yB, yC])
 refine ⟨⟨fun j v hv => (World.cell?_of_block (a := ⟨b, off + j, none⟩) (T2.out.block b HB.out.lt (by have := blk_ne_mapD D0.out.opn HB.out; simpa using this))).trans (RX.out j v hv), D2.out.c2⟩, ?_⟩
 (repeat (first | (refine qs_mid (v := ?_) (by rfl) ?_ ?_; rotate_left 1; (· (intro j w' hj1 hj2 hS; go_simp; (try (simp only [↓IntWalk.iteOmega]; go_simp)); (try simp (disch := omega) only [IntWalk.i64_in]); try with_reducible rfl)); simp only [Act.put, yA, yB, yC]) | (refine qs_skip (by rfl) ?_; simp only [Act.put, yA, yB, yC])))
 refine qs_nil ?_
 go_wp2_with (go_at_call 207; refine (dk_crash D2.out).mono ?_; rintro e w3 ⟨rfl, rfl⟩)
 go_ret
 exact ⟨rfl, D2.out, T2.out⟩
end
end Go.Proofs.YtffalfacakdhkaaGreatDoor
namespace Go.Proofs.YtffalfacakdhkaaGreatDoor
open Go.RowKit Go.Maps
set_option linter.unusedVariables false
set_option linter.unusedSimpArgs false
set_option linter.unusedSectionVars false
section
variable {α β : Type} [DecidableEq α] {P : Program} {k : TypeId} {kv : α → Value} {kl : α → Lit} {ve : β → Value} {w : World} {b : Nat} {M : List (α × β)}
/-- 'clear(m)'. -/
theorem MapIs.clear {t e : TypeId} (h : MapIs P k kv kl ve w b M) (ht : P.underlying t = some (.map k e)) (ty : TypeId) :
  ∃ w', (Builtin.clear_ #[t] ty #[.map (some b)]).run P w = .ok (.tuple #[]) w' ∧ MapIs P k kv kl ve w' b ([] : List (α × β)) ∧ w.grownBy w' (some b) := by
 obtain ⟨es, ⟨es', clock, hb, F, hs, hD⟩, _⟩ := h
 refine ⟨{ w with heap := w.heap.setIfInBounds b (.map #[] clock) }, ?_, ⟨[], ⟨#[], clock, (MapKept.heap_set hb).1, ⟨by simp, MapKept.stamped_empty clock, by simp⟩, Nat.le_refl _, rfl⟩, List.Perm.refl _, by intro p hp; simp at hp, List.Pairwise.nil⟩, rfl, rfl, rfl, by simp, fun i _ hi => (MapKept.heap_set hb).2 i (fun e => hi (by rw [e]))⟩
 simp [Builtin.clear_, run_underlying ht, MapKept.run_getObj_map hb, MapKept.run_setObj_map _ hb, Result.andThen]
theorem wpl_mclear {ops : Array Oper} {rest : List Oper} {o : Oper} {a : Act} {Q : Exit → Act → World → Prop} (hg : o.guard = none) (t : TypeId) (m : Operand) (hop : o.op = .call { callee := .builtin .clear, args := #[m], argTypes := #[t] }) {e : TypeId} (ht : P.underlying t = some (.map k e)) (h : MapIs P k kv kl ve w b M) (hm : a.eval m = .map (some b))
  (hK : ∀ w1, MapIs P k kv kl ve w1 b ([] : List (α × β)) → w.grownBy w1 (some b) → wpList P ops Q rest (a.put o.dst (.tuple #[])) w1) : wpList P ops Q (o :: rest) a w := by
 refine wpList_plain hg fun K' hK' => ?_
 obtain ⟨w', hrun, h1, h2⟩ := h.clear ht o.type
 unfold Oper.wp
 simp [execOp, hop, resolve, invoke, builtin, hm, hrun, Result.andThen]
 exact hK' _ _ (hK w' h1 h2)
theorem RangeIs.uniq_todo {r : Nat} {todo : List (α × β)} (h : RangeIs P k kv kl ve w b r M todo) : Uniq todo := by
 obtain ⟨done, hp⟩ := h.sub
 have hu := (h.owns.uniq).perm hp
 exact (List.pairwise_append.1 hu).2.1
theorem aget_cons (p : α × β) (M : List (α × β)) (x : α) : aget (p :: M) x = if p.1 = x then some p.2 else aget M x := rfl
theorem aget_todo {p : α × β} {todo todo' : List (α × β)} (hu : Uniq todo) (hp : todo.Perm (p :: todo')) (x : α) : aget todo x = (if p.1 = x then some p.2 else aget todo' x) ∧ aget todo' p.1 = none := by
 refine ⟨by rw [aget_perm hu hp, aget_cons], ?_⟩
 have hu2 := hu.perm hp
 exact aget_none.2 (fun q hq e => (List.pairwise_cons.1 hu2).1 q hq e.symm)
end
section
variable {w w' : World} {d sb ob n : Nat} {S O : SM}
/-- While the open ones are gone through: what is to come, over what is safe, is what it was. -/
structure SyI (w : World) (d sb ob n r : Nat) (S O S' todo : SM) (wr : World) : Prop where
 blk : Blk wr d 113 (dkC n sb ob).toArray
 safe : MapIs Tryz.prog 3 kD lD vSec wr sb S'
 rng : RangeIs Tryz.prog 3 kD lD vSec wr ob r O todo
 lat : ∀ i, latD S' todo i = latD S O i
 len : S'.length + todo.length ≤ S.length + O.length
 low : Tch [sb] w wr
 nb : sb ≠ ob ∧ sb ≠ r ∧ d ≠ r
def SyL (w : World) (d sb ob n r : Nat) (S O : SM) (k : Nat) (wr : World) : Prop := ∃ S' todo, k = todo.length ∧ SyI w d sb ob n r S O S' todo wr
theorem lat_put {S' todo todo' : SM} {p : Int × Sec} (hu : Uniq todo) (hp : todo.Perm (p :: todo')) (i : Int) : latD (aput S' p.1 p.2) todo' i = latD S' todo i := by
 obtain ⟨h1, h2⟩ := aget_todo hu hp i
 unfold latD
 rw [h1, aget_put]
 by_cases e : p.1 = i
 ·subst e
  rw [h2, if_pos rfl, if_pos rfl]
  rfl
 ·rw [if_neg e, if_neg e]
theorem aput_lenQ (M : SM) (x : Int) (v : Sec) : (aput M x v).length ≤ M.length + 1 := by
 unfold aput
 rw [List.length_cons]
 have := adel_le M x
 omega
def SyPost (w : World) (d sb ob n : Nat) (S O : SM) (e : Ending) (w' : World) : Prop := ∃ S', e = .returned (.int .i64 0) ∧ DkIs w' d sb ob n S' [] ∧ (∀ i, latD S' [] i = latD S O i) ∧ S'.length ≤ S.length + O.length ∧ Tch [sb, ob] w w'
set_option maxRecDepth 100000 in
theorem dk_sync (h : DkIs w d sb ob n S O) (hl : S.length + O.length ≤ 1000000) : Calls Tryz.prog 143 #[.pointer (some ⟨d, 0, none⟩)] w (SyPost w d sb ob n S O) := by
 have D0 := yH h
 have HL := yH hl
 have c2 := h.c2
 have hmay := dk_may h 0 (by have := h.rng; omega)
 have HM := yH hmay
 clear h hl hmay
 go_enter Tryz.func143, Tryz.ntmps143
 go_upto_region 7 with (first
  | (go_at_call 206; refine (HM.out).mono ?_; rintro e w1 ⟨rfl, rfl⟩)
  | (go_at_call 207; refine (dk_crash D0.out).mono ?_; rintro e w1 ⟨rfl, rfl⟩)
  | (refine wpl_mrange rfl 111 (.tmp 16) (by rfl) keyed_int Tryz.underlying111 D0.out.opn (by rfl) ?_; intro w1 hr hg hz; have R1 := yH hr; have G1 := yH hg; clear hr hg hz; simp only [Act.put, yA, yB, yC]))
 have X1 := yH (show SyI w d sb ob n w.heap.size S O S O w1 from ⟨D0.out.blk.grown G1.out (by simp), D0.out.safe.kept G1.out (by simp), R1.out, fun _ => rfl, Nat.le_refl _, Tch.grown G1.out (by simp), D0.out.ne, by have := D0.out.safe.lt; omega, by have := D0.out.blk.lt; omega⟩)
 clear R1 G1
 have hrb : w.heap.size ≤ w.heap.size := Nat.le_refl _
 obtain ⟨r, hr⟩ : ∃ r, r = w.heap.size := ⟨_, rfl⟩
 have HRb := yH (show w.heap.size ≤ r by omega)
 rw [← hr] at X1
 rw [← hr]
 clear hr hrb
 go_loopg [4] O.length (fun k nv wr => SyL w d sb ob n r S O k wr)
 case atStart => exact ⟨S, O, rfl, X1.out⟩
 case round =>
  obtain ⟨S', todo, hk, hX⟩ := hrel
  have X := yH hX
  have HK := yH hk
  clear hX hk X1
  go_wp2_with (refine wpl_mnext rfl (.tmp 17) (by rfl) keyed_int X.out.rng (by rfl) lD_inj2 ?_ ?_)
  ·intro htd
   have HTd := yH htd
   clear htd
   have c2' : wr.cell? ⟨d, 2, none⟩ = some (.map (some ob)) := X.out.blk.cell rfl
   go_wp2_with (refine wpl_mclear rfl 111 (.tmp 32) (by rfl) Tryz.underlying111 X.out.rng.owns (by rfl) ?_; intro w3 hm hg; have M3 := yH hm; have G3 := yH hg; clear hm hg; simp only [Act.put, yA, yB, yC])
   go_ret
   have hlat := X.out.lat
   have hlen := X.out.len
   rw [HTd.out] at hlat hlen
   exact ⟨S', rfl, ⟨X.out.blk.grown G3.out (by have := blk_ne_mapD X.out.rng.owns X.out.blk; simpa using this), X.out.safe.kept G3.out (by simpa using X.out.nb.1), M3.out, X.out.nb.1, D0.out.rng⟩, hlat, by simpa using hlen,
    (X.out.low.mono (fun k hk => by simp at hk; simp [hk])).trans (Tch.grown G3.out (fun k hk => by injection hk with hk; subst hk; exact .inl (by simp)))⟩
  ·intro i xv xp todo' w1' hperm hR hg hsz hen
   obtain ⟨x, hx⟩ : ∃ x : Sec, (⟨xv, xp⟩ : Sec) = x := ⟨_, rfl⟩
   rw [hx] at hperm hen
   rw [hx]
   clear hx xp xv
   have B1 := yH (X.out.blk.grown hg (by have := X.out.nb.2.2; simpa using this))
   have F1 := yH (X.out.safe.kept hg (by have := X.out.nb.2.1; simpa using this))
   have R1 := yH hR
   have P1 := yH hperm
   have T1 := yH (show Tch [sb] w w1' from X.out.low.fresh (Tch.grown (T := [r]) hg (fun k hk => by injection hk with hk; subst hk; exact .inl (by simp))) (fun k hk => by simp at hk; subst hk; exact .inr HRb.out))
   have hkey : keyOf Tryz.prog 3 (kD i) = some (lD i) := by
    have h1 := X.out.rng.owns.keys
    obtain ⟨dn, hd⟩ := X.out.rng.sub
    exact h1 (i, x) (hd.mem_iff.2 (List.mem_append_right _ (hperm.mem_iff.2 (List.mem_cons_self ..))))
   have HKy := yH hkey
   have hlen := X.out.len
   rw [hperm.length_eq, List.length_cons] at hlen
   have HLn := yH hlen
   clear hperm hR hg hsz hkey hlen
   go_upto_region 9 with (first
    | (refine wpl_over rfl 185 (.tmp 5) (.tmp 22) (by rfl) w1'.heap.size (secL x) (by rfl) (by rfl) _ _ KA.out (sec_info _) (by rw [CA.out, secL_len]) (secL_one _) ?_; intro wC hk hg hz; have KC := yH hk; have LC := yH (bl_g LA.out hg (Nat.le_refl _)); clear hk hg hz; simp only [Act.put, yA, yB, yC])
    | (refine wpl_alloc rfl 185 (by rfl) Tryz.zeroValue185 512 zsec_size ?_; intro wA csA hk hc hg hz; have KA := yH hk; have CA := yH hc; have LA := yH (bl_n (Below.refl w1'.heap.size w1') hg); clear hk hc hg hz; simp only [Act.put, yA, yB, yC]))
   have BC := yH (B1.out.below LC.out B1.out.lt)
   have FC := yH (F1.out.below LC.out F1.out.lt)
   have RC := yH (R1.out.tch (T := []) (Tch.below LC.out) (by simp) (by simp))
   have TC := yH (show Tch [sb] w wC from T1.out.trans (Tch.below LC.out))
   refine wp_region_qs (fun _ w' => w'.rangeAt w1'.heap.size 0 (secL x) ∧ w'.cell? ⟨d, 1, none⟩ = some (.map (some sb))) [(0, some 0), (1, some 0), (2, some 0), (3, some 0), (4, some 0), (5, some 0), (6, none)] (by kernel_rfl) (by kernel_rfl) (by kernel_rfl) (by kernel_rfl) (by kernel_rfl) (fun _ _ _ _ _ h => h) ⟨by have := KC.out.drew.range; rwa [List.toList_toArray] at this, BC.out.drew.cell rfl⟩ ?_
   simp only [yD, yE, yF, yG]
   (repeat (first | ((refine qs_row (by rfl) 185 (.tmp 5) (by rfl) w1'.heap.size 0 (by rfl) (secL x) _ (fun j w' _ h2 h => h.1) Tryz.underlying185 rfl (sec_info _) ?_); simp only [Act.put, yA, yB, yC]) | (refine qs_mid (v := ?_) (by rfl) ?_ ?_; rotate_left 1; (· (intro j w' hj1 hj2 hS; go_simp; (try (simp only [↓IntWalk.iteOmega]; go_simp)); (try simp (disch := omega) only [IntWalk.i64_in]); try with_reducible rfl)); simp only [Act.put, yA, yB, yC]) | (refine qs_skip (by rfl) ?_; simp only [Act.put, yA, yB, yC])))
   refine qs_act ?_
   go_wp2_with (refine wpl_mput rfl 111 (.tmp 26) (.tmp 27) (.tmp 28) (by rfl) keyed_int Tryz.underlying111 FC.out.drew (by have := HLn.out; have := HL.out; unfold maxLen; omega) (by rfl) i (by rfl) x (by rfl) (lD_inj _) HKy.out ?_; intro w2 hm hg; have M2 := yH hm; have G2 := yH hg; clear hm hg; simp only [Act.put, yA, yB, yC])
   have nsb := X.out.nb
   have X2 := yH (show SyI w d sb ob n r S O (aput S' i x) todo' w2 from
    ⟨BC.out.drew.grown G2.out (by have := blk_ne_mapD FC.out.drew BC.out.drew; simpa using this), M2.out,
     (RC.out.tch (T := []) (Tch.below (Below.refl _ wC).drew) (by simp) (by simp)).kept G2.out (by simpa using nsb.1.symm) (by simpa using nsb.2.1.symm),
     fun k => by rw [lat_put (X.out.rng.uniq_todo) P1.out k]; exact X.out.lat k,
     by have := aput_lenQ S' i x; have := HLn.out; omega,
     (TC.out.trans (Tch.below (Below.refl _ _).drew)).trans (Tch.grown G2.out (fun k hk => by injection hk with hk; subst hk; exact .inl (by simp))), nsb⟩)
   have K2 := yH (KC.out.drew.grown G2.out (by have := blk_ne_mapD FC.out.drew KC.out.drew; simpa using this))
   have HPl := yH (show gk = todo'.length + 1 by rw [HK.out, P1.out.length_eq, List.length_cons])
   refine ⟨⟨by have := K2.out.range; rwa [List.toList_toArray] at this, X2.out.blk.cell rfl⟩, ?_⟩
   (repeat (first | ((refine qs_row (by rfl) 185 (.tmp 5) (by rfl) w1'.heap.size 0 (by rfl) (secL x) _ (fun j w' _ h2 h => h.1) Tryz.underlying185 rfl (sec_info _) ?_); simp only [Act.put, yA, yB, yC]) | (refine qs_mid (v := ?_) (by rfl) ?_ ?_; rotate_left 1; (· (intro j w' hj1 hj2 hS; go_simp; (try (simp only [↓IntWalk.iteOmega]; go_simp)); (try simp (disch := omega) only [IntWalk.i64_in]); try with_reducible rfl)); simp only [Act.put, yA, yB, yC]) | (refine qs_skip (by rfl) ?_; simp only [Act.put, yA, yB, yC])))
   refine qs_nil ?_
   go_wp2_with fail
   go_roundg (gk - 1)
   case measure => have := HPl.out; omega
   case rel => exact ⟨_, todo', by have := HPl.out; omega, X2.out⟩
end
end Go.Proofs.YtffalfacakdhkaaGreatDoor
namespace Go.Proofs.YtffalfacakdhkaaGreatDoor
open Go.RowKit Go.Maps
set_option linter.unusedVariables false
set_option linter.unusedSimpArgs false
section
variable {α β : Type} [DecidableEq α] {P : Program} {kt : TypeId} {kv : α → Value} {kl : α → Lit} {ve : β → Value} {b : Nat} {M : List (α × β)} {l : List Oper} {Q : Exit → Act → World → Prop} {S : Nat → World → Prop}
theorem qs_mlookD {o : Oper} {r : List (Oper × Option Nat)} {k m : Nat} {a : Act} {w : World} (hw : Region.wanted o (yielded l.toArray a.tmps) = true) (t : TypeId) (mm x : Operand) (ho : o.op = .lookup t mm x false) {e : TypeId} (K : Keyed P kt) (ht : P.underlying t = some (.map kt e))
  (hm : a.eval mm = .map (some b)) (X : α) (hx : a.eval x = kv X) {z : Value} (hz : ∀ u : World, (zeroValue e).run P u = .ok z u) (hS : ∀ j w, k ≤ j → j ≤ m → S j w → MapIs P kt kv kl ve w b M) (hinj : ∀ p ∈ M, kl p.1 = kl X → p.1 = X) (hkey : keyOf P kt (kv X) = some (kl X)) (v : Value) (hv : ((aget M X).map ve).getD z = v)
  (h : wpQs P l Q S r k (a.put o.dst v) w) : wpQs P l Q S ((o, some m) :: r) k a w :=
 ⟨v, .inl ⟨hw, fun w' ⟨j, h1, h2, h3⟩ => by
  have hrun := (hS j w' h1 h2 h3).look K ht (hz w') hinj hkey
  rw [hv] at hrun
  unfold execOp
  simp only [ho, hm, hx, Sem.run_bind, hrun, Result.andThen_ok, Sem.run_pure]⟩, h⟩
theorem qs_mlenD {o : Oper} {r : List (Oper × Option Nat)} {k m : Nat} {a : Act} {w : World} (hw : Region.wanted o (yielded l.toArray a.tmps) = true) (t : TypeId) (mm : Operand) (ho : o.op = .call { callee := .builtin .len, args := #[mm], argTypes := #[t] }) {e : TypeId} (ht : P.underlying t = some (.map kt e))
  (hm : a.eval mm = .map (some b)) (hS : ∀ j w, k ≤ j → j ≤ m → S j w → MapIs P kt kv kl ve w b M)
  (h : wpQs P l Q S r k (a.put o.dst (.int .i64 (M.length : Int))) w) : wpQs P l Q S ((o, some m) :: r) k a w :=
 ⟨_, .inl ⟨hw, fun w' ⟨j, h1, h2, h3⟩ => by
  have hrun := (hS j w' h1 h2 h3).len ht o.type
  unfold execOp
  simp [ho, resolve, invoke, builtin, hm, hrun, Result.andThen]⟩, h⟩
end
structure Ke where
 (A : Option Addr) (cap : Nat) (at_ : Int) (x : Sec)
def veK (e : Ke) : Value := .agg #[.slice e.A 512 e.cap, .int .i64 e.at_]
abbrev KM := List (Int × Ke)
def ccC (d kb : Nat) (most now h m : Int) : List Value := [.pointer (some ⟨d, 0, none⟩), .int .i64 most, .int .i64 now, .map (some kb), .int .i64 h, .int .i64 m]
/-- A cache over a disk that is up; the entries of the sectors sk may be stale. -/
structure CcW (w : World) (c kb d sb ob n : Nat) (K : KM) (S O : SM) (sk : Int → Prop) : Prop where
 blk : ∃ now h m, Blk w c 206 (ccC d kb 64 now h m).toArray
 map : MapIs Tryz.prog 3 kD lD veK w kb K
 dk : DkIs w d sb ob n S O
 rows : ∀ p ∈ K, BSrc w p.2.A 512 (secL p.2.x) ∧ (sk p.1 ∨ p.2.x = latD S O p.1)
 nes : kb ≠ sb ∧ kb ≠ ob
section
variable {w w' : World} {c kb d sb ob n : Nat} {K : KM} {S O : SM} {sk : Int → Prop}
theorem CcW.tch {T : List Nat} (h : CcW w c kb d sb ob n K S O sk) (hT : Tch T w w') (h0 : c ∉ T) (h1 : kb ∉ T) (h2 : d ∉ T) (h3 : sb ∉ T) (h4 : ob ∉ T) (hn : ∀ b cs, Blk w b 5 cs → b ∉ T) : CcW w' c kb d sb ob n K S O sk := by
 obtain ⟨now, hi, mi, hb⟩ := h.blk
 exact ⟨⟨now, hi, mi, hb.tch hT h0⟩, h.map.tch hT h1, h.dk.tch hT h2 h3 h4, fun p hp => ⟨(h.rows p hp).1.tch hT hn, (h.rows p hp).2⟩, h.nes⟩
theorem CcW.below (h : CcW w c kb d sb ob n K S O sk) (hb : Below w.heap.size w w') : CcW w' c kb d sb ob n K S O sk := h.tch (T := []) (Tch.below hb) (by simp) (by simp) (by simp) (by simp) (by simp) (by simp)
theorem CcW.drew (h : CcW w c kb d sb ob n K S O sk) : CcW w.drew c kb d sb ob n K S O sk := h.below (Below.refl _ _).drew
theorem CcW.c0 (h : CcW w c kb d sb ob n K S O sk) : w.cell? ⟨c, 0, none⟩ = some (.pointer (some ⟨d, 0, none⟩)) := by obtain ⟨now, hi, mi, hb⟩ := h.blk; exact hb.cell rfl
theorem CcW.c1 (h : CcW w c kb d sb ob n K S O sk) : w.cell? ⟨c, 1, none⟩ = some (.int .i64 64) := by obtain ⟨now, hi, mi, hb⟩ := h.blk; exact hb.cell rfl
theorem CcW.c3 (h : CcW w c kb d sb ob n K S O sk) : w.cell? ⟨c, 3, none⟩ = some (.map (some kb)) := by obtain ⟨now, hi, mi, hb⟩ := h.blk; exact hb.cell rfl
theorem CcW.turn {T : List Nat} (h : CcW w c kb d sb ob n K S O sk) (hT : Tch T w w') (hs : ∀ k ∈ T, k = c) (hc : ∃ now hi mi, Blk w' c 206 (ccC d kb 64 now hi mi).toArray) : CcW w' c kb d sb ob n K S O sk := by
 obtain ⟨now, hi, mi, hb⟩ := h.blk
 have n1 : kb ∉ T := fun hk => by have := hs _ hk; exact blk_ne_mapD h.map hb this.symm
 have n2 : sb ∉ T := fun hk => by have := hs _ hk; exact blk_ne_mapD h.dk.safe hb this.symm
 have n3 : ob ∉ T := fun hk => by have := hs _ hk; exact blk_ne_mapD h.dk.opn hb this.symm
 have n4 : d ∉ T := fun hk => by
  have e := hs _ hk
  have hd := h.dk.blk
  rw [e] at hd
  unfold Blk at hb hd
  rw [hb] at hd
  injection hd with hd
  injection hd with _ hd
  revert hd
  decide
 refine ⟨hc, h.map.tch hT n1, h.dk.tch hT n4 n2 n3, fun p hp => ⟨(h.rows p hp).1.tch hT (fun b cs hk hm => ?_), (h.rows p hp).2⟩, h.nes⟩
 have e := hs _ hm
 rw [e] at hk
 unfold Blk at hb hk
 rw [hb] at hk
 injection hk with hk
 injection hk with _ hk
 revert hk
 decide
set_option maxRecDepth 100000 in
theorem cc_known (h : CcW w c kb d sb ob n K S O sk) : Calls Tryz.prog 142 #[.pointer (some ⟨c, 0, none⟩)] w fun e w' => e = .returned (.bool true) ∧ w = w' := by
 have c1 := h.c1
 clear h
 go_enter Tryz.func142, Tryz.ntmps142
 go_wp2
 go_ret
 exact ⟨rfl, rfl⟩
set_option maxRecDepth 100000 in
theorem cc_sectors (h : CcW w c kb d sb ob n K S O sk) : Calls Tryz.prog 137 #[.pointer (some ⟨c, 0, none⟩)] w fun e w' => e = .returned (.int .i64 (n : Int)) ∧ w = w' := by
 have H := yH h
 have c0 := h.c0
 clear h
 go_enter Tryz.func137, Tryz.ntmps137
 go_wp2_with (first
  | (go_at_call 142; refine (cc_known H.out).mono ?_; rintro e w1 ⟨rfl, rfl⟩)
  | (go_at_call 73; refine (dk_sectors H.out.dk).mono ?_; rintro e w1 ⟨rfl, rfl⟩))
 go_ret
 exact ⟨rfl, rfl⟩
def ClonePostQ (m : Nat) (ys : List Value) (w : World) (e : Ending) (w' : World) : Prop := ∃ v, e = .returned v ∧ w'.ownsRow w.heap.size 5 1 v m ys ∧ Below w.heap.size w w'
set_option maxRecDepth 100000 in
theorem bclone_any (a : Addr) (m cap : Nat) {ys : List Value} (hs : Src w 1 (.slice (some a) m cap) m ys) (h1 : ∀ y ∈ ys, y.oneCell' = true) (hm : m ≤ 1000000) : Calls Tryz.prog 102 #[.slice (some a) m cap] w (ClonePostQ m ys w) := by
 have H := yH hs
 have H1 := yH h1
 clear hs h1
 have hn := fun W : World => Lib.run_eql_slice_nil (P := Tryz.prog) W 25 5 (some a) m cap 0 0 Tryz.underlying25
 go_enter Tryz.func102, Tryz.ntmps102
 go_wp2_with (first
  | (refine app_src rfl (.tmp 5) (.tmp 6) 25 (by rfl) w.heap.size 5 _ 1 1 Tryz.underlying25 infoByte rfl (by omega) v5 0 [] (by rfl) O5.out _ m ys (by rfl) (H.out.below L5.out) H1.out (by omega) (by omega) L5.out.size ?_; intro v6 w6 ho hg _; have O6 := yH ho; have L6 := yH (L5.out.grown hg L5.out.size (fun k hk => (own_atD O5.out k hk).1)); clear ho hg; simp only [Act.put, yA, yB, yC])
  | (refine wpl_lit0D rfl 25 5 (by rfl) Tryz.underlying25 infoByte w.heap.size (Nat.le_refl _) ?_; intro v5 w5 ho hg; have O5 := yH ho; have L5 := yH (bl_n (Below.refl _ _) hg); clear ho hg; simp only [Act.put, yA, yB, yC]))
 go_ret
 exact ⟨v6, rfl, by simpa using O6.out, L6.out⟩
end
end Go.Proofs.YtffalfacakdhkaaGreatDoor
