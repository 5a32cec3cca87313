/-
  what this claim needs of: StM8, StS1, StS2, StS3, StS4 (written by cut.py).
-/
import Derived.Test.YtffalfacakdhkaaGreatDoorDStR
import Derived.Test.YtffalfacakdhkaaGreatDoorDStO3
import Derived.Test.YtffalfacakdhkaaGreatDoorDStM
import Derived.Test.YtffalfacakdhkaaGreatDoorDStB
import Derived.Test.YtffalfacakdhkaaGreatDoorDStC
import Derived.Test.YtffalfacakdhkaaGreatDoorDStW
import Derived.Test.YtffalfacakdhkaaGreatDoorDStX
namespace Go.Proofs.YtffalfacakdhkaaGreatDoor
open Go.RowKit Go.Maps
set_option linter.unusedVariables false
set_option linter.unusedSimpArgs false

def slI (g : MpF) (id : Int) (u : Nat) : List It := if (g u).mask = 0 then [] else [⟨2, zKey, zPl, id, (u : Int), g u⟩]
def slIs (n : Nat) (g : MpF) (id : Int) : List It := (List.range n).flatMap (slI g id)
theorem slIs_succ (n : Nat) (g : MpF) (id : Int) : slIs (n + 1) g id = slIs n g id ++ slI g id n := by simp [slIs, List.range_succ]
def gAt (f : MpF) (M : SnM) (id : Int) : MpF := (ofS f M id).getD zF
def mSl (n : Nat) (f : MpF) (M : SnM) (ids : List Int) : List It := ids.flatMap (fun id => slIs n (gAt f M id) id)
def snI (id : Int) : It := ⟨3, zKey, zPl, id, 0, zSl⟩
/-- What maps' Items gives. -/
def mItems (n : Nat) (f : MpF) (M : SnM) : List It := mSl n f M (0 :: sIds M) ++ (sIds M).map snI
theorem ofP_rng {w : World} {mi bs n b off : Nat} {f g : MpF} {M : SnM} {snap : Int} (h : MapsIs w mi bs n f M) (hg : ofS f M snap = some g) (e : ofP mi M snap = .pointer (some ⟨b, off, none⟩)) (u : Nat) (hu : u < 512) : w.rangeAt b (off + u * 34) (slC (g u)) := by
 obtain ⟨b', off', e', _, hr⟩ := ofP_some h hg
 rw [e] at e'
 injection e' with e'
 injection e' with e'
 injection e' with e1 e2
 subst e1 e2
 exact hr u hu
theorem slI_len (g : MpF) (id : Int) (u : Nat) : (slI g id u).length ≤ 1 := by unfold slI; split <;> simp
def IdsOk (M : SnM) : Prop := M.length ≤ 1000 ∧ ∀ p ∈ M, 1 ≤ p.1 ∧ p.1 ≤ 1073741824
theorem sIds_mem {M : SnM} (hM : IdsOk M) {id : Int} (h : id ∈ sIds M) : 1 ≤ id ∧ id ≤ 1073741824 := by
 obtain ⟨p, hp, rfl⟩ := List.mem_map.1 ((sIds_perm M).mem_iff.1 h)
 exact hM.2 p hp
theorem ofS_mem {f : MpF} {M : SnM} {id : Int} (h : id ∈ 0 :: sIds M) : ofS f M id = some (gAt f M id) := by
 unfold gAt ofS
 rcases List.mem_cons.1 h with rfl | h
 ·simp
 ·split
  ·rfl
  ·obtain ⟨p, hp, e⟩ := List.mem_map.1 ((sIds_perm M).mem_iff.1 h)
   cases hq : aget M id with
   | none => exact absurd e (aget_none.1 hq p hp)
   | some q => rfl
theorem own_int_cell {w : World} {base g n c : Nat} {zs : List Int} (h : w.ownsRow base 3 1 (.slice (some ⟨g, 0, none⟩) n c) n (zs.map (Value.int .i64))) {i : Nat} (hi : i < zs.length) : w.cell? ⟨g, i, none⟩ = some (.int .i64 (zs[i]'hi)) := by
 have := h.cells (g := g) rfl i (.int .i64 (zs[i]'hi)) (by simp [hi])
 rw [Addr.add_mid, Nat.zero_add] at this
 exact this
theorem own_lit {w : World} {base : Nat} {e : TypeId} (v : Value) (hb : base ≤ w.heap.size) (w' : World) (hk : Blk w' w.heap.size e #[v]) : w'.ownsRow base e 1 (.slice (some ⟨w.heap.size, 0, none⟩) 1 1) 1 [v] :=
 ⟨rfl, .inr ⟨w.heap.size, 1, #[v], rfl, hb, hk, Nat.le_refl _, by unfold maxLen; omega, rfl, rfl⟩⟩
/-- the rows of numbers, and the items so far -/
structure MItI (w : World) (mi bs n : Nat) (f : MpF) (M : SnM) (v4 : Value) (g18 c18 : Nat) (v3 : Value) (l : List It) (wr : World) : Prop where
 maps : MapsIs wr mi bs n f M
 row4 : wr.ownsRow w.heap.size 3 1 v4 M.length ((sIds M).map (Value.int .i64))
 row18 : wr.ownsRow w.heap.size 3 1 (.slice (some ⟨g18, 0, none⟩) (1 + M.length) c18) (1 + M.length) ((0 :: sIds M).map (Value.int .i64))
 out : wr.ownsRow w.heap.size 231 73 v3 l.length (itsC l)
 low : Below w.heap.size w wr
theorem MItI.below {w : World} {mi bs n : Nat} {f : MpF} {M : SnM} {v4 : Value} {g18 c18 : Nat} {v3 : Value} {l : List It} {wr w' : World} (h : MItI w mi bs n f M v4 g18 c18 v3 l wr) (hb : Below wr.heap.size wr w') : MItI w mi bs n f M v4 g18 c18 v3 l w' :=
 ⟨h.maps.below hb, own_belowR h.row4 hb, own_belowR h.row18 hb, own_belowR h.out hb, below_chain h.low hb⟩
theorem MItI.app {w : World} {mi bs n : Nat} {f : MpF} {M : SnM} {v4 : Value} {g18 c18 : Nat} {v3 v' : Value} {l l' : List It} {wr w' : World} (h : MItI w mi bs n f M v4 g18 c18 v3 l wr) (hg : wr.grownBy w' v3.ownBlock) (ho : w'.ownsRow w.heap.size 231 73 v' l'.length (itsC l')) (hlow : mi < w.heap.size ∧ bs < w.heap.size ∧ ∀ p ∈ M, p.2.1 < w.heap.size) : MItI w mi bs n f M v4 g18 c18 v' l' w' := by
 have hmi := h.low.size
 have hb : Below w.heap.size wr w' := ⟨hg.os, hg.tape, hg.output, hg.size, fun k hk => hg.block k (by omega) (fun e => by have := own_at h.out k e.symm; omega)⟩
 exact ⟨⟨h.maps.blk.below hb hlow.1, h.maps.map.below hb hlow.2.1, fun p hp => (h.maps.each p hp).below hb (hlow.2.2 p hp), h.maps.low, h.maps.high⟩,
  own_keptR h.row4 hg (own_apartI h.row4 h.out (by decide)), own_keptR h.row18 hg (own_apartI h.row18 h.out (by decide)), ho, h.low.trans hb⟩
theorem slice_one (n : Nat) (hn : n ≤ 512) (b off : Nat) (W : World) : (Instr.sliceAt 282 (.pointer (some ⟨b, off, none⟩)) none (some (.int .i64 (n : Int))) none).run Tryz.prog W = .ok (.slice (some ⟨b, off, none⟩) n 512) W := by
 have hu : Tryz.prog.underlying 282 = some (.array (Tryz.prog.arrayLen 282) (Tryz.prog.elem 282)) := by kernel_rfl
 have hl : Tryz.prog.arrayLen 282 = 512 := by kernel_rfl
 have he : Tryz.prog.elem 282 = 181 := by kernel_rfl
 rw [run_sliceAt_array_h W _ _ hu _ _ (by omega) (by rw [hl]; omega), hl, he, Tryz.sizeOf181]
 simp only [Result.andThen_ok, slicedAt, Int.toNat_natCast]
 simp [Addr.add_mid]
def MItPost (l : List It) (w : World) (e : Ending) (w' : World) : Prop := ∃ v, e = .returned v ∧ w'.ownsRow w.heap.size 231 73 v l.length (itsC l) ∧ Below w.heap.size w w'
/-- loop 1: i rounds are done. -/
def M1I (w : World) (mi bs n : Nat) (f : MpF) (M : SnM) (v4 : Value) (g18 c18 : Nat) (k : Nat) (v3 iv : Value) (wr : World) : Prop :=
 ∃ (i : Nat) (l : List It), iv = .int .i64 (i : Int) ∧ i ≤ M.length + 1 ∧ i + k ≤ M.length + 1 ∧ M.length + 1 ≤ i + k ∧ l = mSl n f M ((0 :: sIds M).take i) ∧ l.length ≤ i * 512 ∧ MItI w mi bs n f M v4 g18 c18 v3 l wr
def M2I (w : World) (mi bs n : Nat) (f : MpF) (M : SnM) (v4 : Value) (g18 c18 : Nat) (l0 : List It) (g : MpF) (id : Int) (k : Nat) (v3 iv : Value) (wr : World) : Prop :=
 ∃ (j : Nat) (l : List It), iv = .int .i64 (j : Int) ∧ j ≤ n ∧ j + k ≤ n ∧ n ≤ j + k ∧ l = l0 ++ slIs j g id ∧ l.length ≤ l0.length + j ∧ MItI w mi bs n f M v4 g18 c18 v3 l wr
def M3I (w : World) (mi bs n : Nat) (f : MpF) (M : SnM) (v4 : Value) (g18 c18 : Nat) (k : Nat) (v3 iv : Value) (wr : World) : Prop :=
 ∃ (i : Nat) (l : List It), iv = .int .i64 (i : Int) ∧ i ≤ M.length ∧ i + k ≤ M.length ∧ M.length ≤ i + k ∧ l = mSl n f M (0 :: sIds M) ++ ((sIds M).take i).map snI ∧ l.length ≤ (M.length + 1) * 512 + i ∧ MItI w mi bs n f M v4 g18 c18 v3 l wr
theorem mSl_take {n : Nat} {f : MpF} {M : SnM} {ids : List Int} {i : Nat} (hi : i < ids.length) : mSl n f M (ids.take (i + 1)) = mSl n f M (ids.take i) ++ slIs n (gAt f M (ids[i]'hi)) (ids[i]'hi) := by
 unfold mSl
 rw [List.take_succ_eq_append_getElem hi, List.flatMap_append]
 simp
set_option maxRecDepth 100000 in
set_option maxHeartbeats 4000000 in
theorem mItems_any {w : World} {mi bs n : Nat} {f : MpF} {M : SnM} (h : MapsIs w mi bs n f M) (hM : IdsOk M) : Calls Tryz.prog 158 #[.pointer (some ⟨mi, 0, none⟩)] w (MItPost (mItems n f M) w) := by
 have H := yH h
 have HM := yH hM
 have hn := h.high
 have hMl := hM.1
 have HL := yH (show mi < w.heap.size ∧ bs < w.heap.size ∧ ∀ p ∈ M, p.2.1 < w.heap.size from ⟨h.blk.lt, h.map.lt, fun p hp => (h.each p hp).lt⟩)
 have HIl := yH (sIds_len M)
 clear h hM
 go_enter Tryz.func158, Tryz.ntmps158
 go_upto_region 5 with (first
  | (go_at_call 196; refine (known_any H.out).mono ?_; rintro e w2 ⟨rfl, rfl⟩)
  | (go_at_call 108; refine (ids_any H.out (by omega)).mono ?_; rintro e w1 ⟨v4, rfl, ho, hnil, hb⟩; obtain ⟨A4, c4, rfl, _⟩ := own_slice ho; have O4 := yH ho; have L1 := yH hb; clear ho hnil hb))
 have H1 := yH (H.out.below L1.out)
 have La := yH (show Below w1.heap.size w1 (w1.alloc (Obj.cells #[Value.int .i64 0] 3)) from (Below.refl _ _).alloc (Nat.le_refl _) _)
 have hsz := L1.out.size
 go_wp2_with (refine app_src rfl (.tmp 16) (.tmp 17) 55 rfl w.heap.size 3 (.int .i64 0) 1 8 Tryz.underlying55 infoInt rfl (by omega) (.slice (some ⟨w1.heap.size, 0, none⟩) 1 1) 1 [.int .i64 0] rfl (own_lit _ hsz _ (Blk.made _ _ _)) (.slice A4 M.length c4) M.length ((sIds M).map (Value.int .i64)) rfl (Src.of_own (own_belowR O4.out La.out)) (by intro y hy; obtain ⟨z, _, rfl⟩ := List.mem_map.1 hy; rfl) (by omega) (by omega) (Nat.le_trans hsz (by simp)) ?_; intro v18 w2 ho hg hv; obtain ⟨g18, c18, rfl, _, _⟩ := ho.form (by omega); have O18 := yH ho; have G2 := yH hg; have V18 := yH hv; clear ho hg hv)
 have L2 := yH (show Below w.heap.size w w2 from bl_ag L1.out G2.out)
 have I2 := yH (show MItI w mi bs n f M (.slice A4 M.length c4) g18 c18 (.slice none 0 0) [] w2 from ⟨H.out.below L2.out, own_keptR (own_belowR O4.out La.out) G2.out (fun b e hb => by have := own_at O4.out b hb; injection e with e; simp only at e; omega), O18.out, World.ownsRow_nil _ _ _ _, L2.out⟩)
 clear O4 L1 H1 La hsz O18 G2 V18 L2
 go_loopg [3, 20] (1 + M.length) (fun k v3 iv wr => M1I w mi bs n f M (.slice A4 M.length c4) g18 c18 k v3 iv wr)
 case atStart => exact ⟨0, [], rfl, by omega, by omega, by omega, rfl, by simp, I2.out⟩
 case round =>
  obtain ⟨i, l, rfl, i1, i2, i3, hl, hll, hI⟩ := hrel
  have Ir := yH hI
  have HLl := yH hl
  have HLn := yH hll
  clear hI hl hll I2
  by_cases hi : i < 1 + M.length
  ·have hiI : (i : Int) < 1 + (M.length : Int) := by omega
   have hil : i < (0 :: sIds M).length := by rw [List.length_cons, HIl.out]; omega
   have cid := own_int_cell Ir.out.row18 hil
   have hmem : (0 :: sIds M)[i] ∈ 0 :: sIds M := List.getElem_mem hil
   have HTk := yH (mSl_take (n := n) (f := f) (M := M) hil)
   have hofs := ofS_mem (f := f) (M := M) hmem
   generalize (0 :: sIds M)[i] = id at cid hmem HTk hofs
   have hidr : -9223372036854775808 ≤ id ∧ id ≤ 9223372036854775807 := by
    rcases List.mem_cons.1 hmem with rfl | h
    ·omega
    ·have := sIds_mem HM.out h
     omega
   have HIr := yH hidr
   obtain ⟨g, hg⟩ : ∃ g, g = gAt f M id := ⟨_, rfl⟩
   rw [← hg] at hofs HTk
   obtain ⟨b, off, eP, hb, _⟩ := ofP_some Ir.out.maps hofs
   have HOf := yH hofs
   have HEP := yH eP
   have c0 := Ir.out.maps.n_cell
   clear hidr hmem hofs hg hb eP
   go_wp2_with fail
   refine wp_region_qs (fun _ w' => w'.cell? ⟨mi, 0, none⟩ = some (.int .i64 (n : Int))) [(0, some 0), (1, some 0), (4, some 1), (5, some 1), (6, some 1), (7, some 1), (10, some 1), (2, none), (3, some 1), (8, some 1), (9, some 1)] (by kernel_rfl) (by kernel_rfl) (by kernel_rfl) (by kernel_rfl) (by kernel_rfl) (fun _ _ _ _ _ h => h) c0 ?_
   simp only [yD, yE, yF, yG]
   (repeat (first | (refine qs_mid (v := ?_) (by rfl) ?_ ?_; rotate_left 1; (· (intro j w' hj1 hj2 hS; go_simp; (try (simp only [↓IntWalk.iteOmega]; go_simp)); (try simp (disch := omega) only [IntWalk.i64_in]); try with_reducible rfl)); simp only [Act.put, yA, yB, yC]) | (refine qs_skip (by rfl) ?_; simp only [Act.put, yA, yB, yC])))
   refine qs_act ?_
   go_wp2_with fail
   refine (of_any (w := wr.drew) (Ir.out.maps.below (Below.refl _ _).drew) id HIr.out).mono ?_
   rw [HEP.out]
   rintro e w' ⟨rfl, rfl⟩
   go_wp2
   refine ⟨c0, ?_⟩
   (repeat (first | ((refine qs_run (v := .slice (some ⟨b, off, none⟩) n 512) (by rfl) (fun j w' hS => by unfold execOp; simp only [Option.map_some, Option.map_none]; show Sem.run _ ((Instr.sliceAt 282 (.pointer (some ⟨b, off, none⟩)) none (some (.int .i64 (n : Int))) none) >>= fun v => pure (Next.value v)) w' = _; rw [Sem.run_bind, slice_one n hn b off w']; rfl) ?_); simp only [Act.put, yA, yB, yC]) | (refine qs_mid (v := ?_) (by rfl) ?_ ?_; rotate_left 1; (· (intro j w' hj1 hj2 hS; go_simp; (try (simp only [↓IntWalk.iteOmega]; go_simp)); (try simp (disch := omega) only [IntWalk.i64_in]); try with_reducible rfl)); simp only [Act.put, yA, yB, yC]) | (refine qs_skip (by rfl) ?_; simp only [Act.put, yA, yB, yC])))
   refine qs_nil ?_
   obtain ⟨wq, hwq⟩ : ∃ wq, wq = wr.drew := ⟨_, rfl⟩
   have Iq := yH (show MItI w mi bs n f M (.slice A4 M.length c4) g18 c18 _ l wq by rw [hwq]; exact Ir.out.below (Below.refl _ _).drew)
   rw [← hwq]
   clear hwq c0 cid Ir
   go_wp2_with fail
   go_loopg [3, 34] n (fun k v3 iv wr' => M2I w mi bs n f M (.slice A4 M.length c4) g18 c18 l g id k v3 iv wr')
   case atStart => exact ⟨0, l, rfl, by omega, by omega, by omega, by simp [slIs], by omega, Iq.out⟩
   case round =>
    obtain ⟨j, l2, rfl, j1, j2, j3, hl2, hll2, hI2⟩ := hrel
    have J := yH hI2
    have HL2 := yH hl2
    have HLn2 := yH hll2
    clear hI2 hl2 hll2 Iq
    by_cases hj : j < n
    ·have hjI : (j : Int) < (n : Int) := by omega
     have HR := yH (ofP_rng J.out.maps HOf.out HEP.out j (by omega))
     have hS := slIs_succ j g id
     have HS := yH hS
     clear hS
     go_upto_region 10 with fail
     go_upto_region 11 with (first
      | ((with_reducible show wpList _ _ _ (_ :: _) _ _); refine wpl_sidx rfl 351 (.tmp 32) (.tmp 34) rfl Tryz.underlying351 Tryz.sizeOf181 b off n 512 j rfl rfl hj ?_)
      | ((with_reducible show wpList _ _ _ (_ :: _) _ _); refine wpList_load_mid rfl 181 (.tmp 37) rfl b (off + j * 34) rfl (slC (g j)) _ HR.out Tryz.underlying181 rfl (slC_info (g j)) ?_)
      | ((with_reducible show wpList _ _ _ (_ :: _) _ _); refine wpl_alloc rfl 181 rfl Tryz.zeroValue181 34 rfl ?_; intro wa cs hk hc hg hz; have K := yH hk; have C := yH hc; have G := yH hg; have Z := yH hz; clear hk hc hg hz)
      | ((with_reducible show wpList _ _ _ (_ :: _) _ _); refine wpl_over rfl 181 (.tmp 8) (.tmp 38) rfl wr.heap.size (slC (g j)) rfl rfl _ cs K.out (slC_info (g j)) (by rw [slC_len, C.out]) (slC_one _) ?_; intro wb hk hg hz; have K2 := yH hk; have L2 := yH (bl_g (bl_n (Below.refl _ _) G.out) hg (Nat.le_refl _)); clear hk hg hz))
     have J2 := yH (J.out.below L2.out)
     have cm := K2.out.cell (i := 33) (by rw [List.getElem?_toArray]; exact slC_mask (g j))
     by_cases hm : (g j).mask = 0
     ·have em : ((g j).mask == 0) = true := beq_iff_eq.2 hm
      have HN := yH (show slI g id j = [] from if_pos hm)
      clear hm
      go_wp2_with fail
      go_roundg (gk - 1)
      case measure => omega
      case rel => exact ⟨j + 1, l2, rfl, by omega, by omega, by omega, by rw [HS.out, HN.out, List.append_nil]; exact HL2.out, by have := HLn2.out; omega, J2.out⟩
     ·have em : ((g j).mask == 0) = false := beq_eq_false_iff_ne.2 hm
      have HN := yH (show slI g id j = [⟨2, zKey, zPl, id, (j : Int), g j⟩] from if_neg hm)
      have hR2 := K2.out.range
      rw [toArr] at hR2
      have HR2 := yH hR2
      have hll := HLn2.out
      have hlen0 := HLn.out
      clear hm hR2
      go_wp2_with (first
       | ((with_reducible show wpList _ _ _ (_ :: _) _ _); refine wpList_load_mid rfl 181 (.tmp 8) rfl wr.heap.size 0 rfl (slC (g j)) _ HR2.out Tryz.underlying181 rfl (slC_info (g j)) ?_)
       | ((with_reducible show wpList _ _ _ (_ :: _) _ _); refine wpl_mk rfl 231 #[(0, .const (.int .u8 2)), (3, .tmp 43), (4, .tmp 44), (5, .tmp 45)] rfl [(0, .int .u8 2), (3, .int .i64 id), (4, .int .i64 (j : Int)), (5, .agg (slC (g j)).toArray)] rfl _ (built_sl id j (g j)) ?_)
       | ((with_reducible show wpList _ _ _ (_ :: _) _ _); refine wpl_lit_it rfl (.tmp 46) rfl ⟨2, zKey, zPl, id, (j : Int), g j⟩ rfl ?_; intro wc hk hg hz; have K3 := yH hk; have G3 := yH hg; clear hk hg hz; have J3 := yH (J2.out.below ((Below.refl _ _).grown G3.out (Nat.le_refl _) (by simp))))
       | ((with_reducible show wpList _ _ _ (_ :: _) _ _); refine wpl_app_it rfl (.tmp 42) (.tmp 47) rfl w.heap.size u3 l2 rfl J3.out.out _ ⟨2, zKey, zPl, id, (j : Int), g j⟩ rfl K3.out (by omega) J3.out.low.size ?_; intro v' wd ho hg; have J4 := yH (J3.out.app hg ho HL.out); clear ho hg))
      go_roundg (gk - 1)
      case measure => omega
      case rel => exact ⟨j + 1, l2 ++ [⟨2, zKey, zPl, id, (j : Int), g j⟩], rfl, by omega, by omega, by omega, by rw [HS.out, HN.out, ← List.append_assoc, HL2.out], by rw [List.length_append]; have := HLn2.out; simp; omega, J4.out⟩
    ·have hjI : ¬ (j : Int) < (n : Int) := by omega
     have hjn : j = n := by omega
     subst hjn
     go_wp2_with fail
     go_roundg (M.length - i)
     case measure => omega
     case rel => exact ⟨i + 1, l2, rfl, by omega, by omega, by omega, by rw [HTk.out, ← HLl.out]; exact HL2.out, by have := HLn2.out; have := HLn.out; omega, J.out⟩
  ·have hiI : ¬ (i : Int) < 1 + (M.length : Int) := by omega
   have hie : i = 1 + M.length := by omega
   have HLf := yH (show l = mSl n f M (0 :: sIds M) by rw [HLl.out, List.take_of_length_le (by rw [List.length_cons, HIl.out]; omega)])
   go_wp2_with fail
   go_loopg [3, 53] M.length (fun k v3 iv wr => M3I w mi bs n f M (.slice A4 M.length c4) g18 c18 k v3 iv wr)
   case atStart => exact ⟨0, l, rfl, by omega, by omega, by omega, by rw [HLf.out]; simp, by have := HLn.out; omega, Ir.out⟩
   case round =>
    obtain ⟨q, l2, rfl, q1, q2, q3, hl2, hll2, hI2⟩ := hrel
    have J := yH hI2
    have HL2 := yH hl2
    have HLn2 := yH hll2
    clear hI2 hl2 hll2 Ir
    by_cases hq : q < M.length
    ·have hqI : (q : Int) < (M.length : Int) := by omega
     obtain ⟨g4, c5, e4, _, _⟩ := J.out.row4.form (by omega)
     injection e4 with e4 _ e5
     subst e4 e5
     have hql : q < (sIds M).length := by rw [HIl.out]; exact hq
     have cid := own_int_cell J.out.row4 hql
     have HTk := yH (show ((sIds M).take (q + 1)).map snI = ((sIds M).take q).map snI ++ [snI ((sIds M)[q]'hql)] by rw [List.take_succ_eq_append_getElem hql, List.map_append]; rfl)
     generalize (sIds M)[q] = id at cid HTk
     have hll := HLn2.out
     go_wp2_with (first
      | ((with_reducible show wpList _ _ _ (_ :: _) _ _); refine wpl_mk rfl 231 #[(0, .const (.int .u8 3)), (3, .tmp 58)] rfl [(0, .int .u8 3), (3, .int .i64 id)] rfl _ (built_sn id) ?_)
      | ((with_reducible show wpList _ _ _ (_ :: _) _ _); refine wpl_lit_it rfl (.tmp 59) rfl (snI id) rfl ?_; intro wc hk hg hz; have K3 := yH hk; have G3 := yH hg; clear hk hg hz; have J3 := yH (J.out.below ((Below.refl _ _).grown G3.out (Nat.le_refl _) (by simp))))
      | ((with_reducible show wpList _ _ _ (_ :: _) _ _); refine wpl_app_it rfl (.tmp 57) (.tmp 60) rfl w.heap.size u3 l2 rfl J3.out.out _ (snI id) rfl K3.out (by omega) J3.out.low.size ?_; intro v' wd ho hg; have J4 := yH (J3.out.app hg ho HL.out); clear ho hg))
     go_roundg (gk - 1)
     case measure => omega
     case rel => exact ⟨q + 1, l2 ++ [snI id], rfl, by omega, by omega, by omega, by rw [HTk.out, ← List.append_assoc, HL2.out], by rw [List.length_append]; have := HLn2.out; simp; omega, J4.out⟩
    ·have hqI : ¬ (q : Int) < (M.length : Int) := by omega
     go_wp2_with fail
     go_ret
     have e : l2 = mItems n f M := by
      rw [HL2.out]
      unfold mItems
      rw [List.take_of_length_le (by rw [HIl.out]; omega)]
     rw [← e]
     exact ⟨_, rfl, J.out.out, J.out.low⟩
end Go.Proofs.YtffalfacakdhkaaGreatDoor
namespace Go.Proofs.YtffalfacakdhkaaGreatDoor
open Go.RowKit Go.Maps Go.Sort Go.Shelf
set_option linter.unusedVariables false
set_option linter.unusedSimpArgs false

abbrev stC (n : Int) (x m : Option Addr) : Array Value := #[.int .i64 n, .pointer x, .pointer m]
structure StIs (w : World) (si xi bx mi bs n : Nat) (E : ExM) (f : MpF) (M : SnM) : Prop where
 blk : Blk w si 214 (stC n (some ⟨xi, 0, none⟩) (some ⟨mi, 0, none⟩))
 idx : IdxIs w xi bx E
 maps : MapsIs w mi bs n f M
 ne : bx ≠ bs
section
variable {w w' : World} {si xi bx mi bs n : Nat} {E : ExM} {f : MpF} {M : SnM}
theorem StIs.tch {T : List Nat} (h : StIs w si xi bx mi bs n E f M) (hb : Tch T w w') (h0 : si ∉ T) (h1 : xi ∉ T) (h2 : bx ∉ T) (h3 : mi ∉ T) (h4 : bs ∉ T) (h5 : ∀ p ∈ M, p.2.1 ∉ T) : StIs w' si xi bx mi bs n E f M :=
 ⟨h.blk.tch hb h0, h.idx.tch hb h1 h2, h.maps.tch hb h3 h4 h5, h.ne⟩
theorem StIs.below (h : StIs w si xi bx mi bs n E f M) (hb : Below w.heap.size w w') : StIs w' si xi bx mi bs n E f M := h.tch (T := []) (Tch.below hb) (by simp) (by simp) (by simp) (by simp) (by simp) (by simp)
theorem StIs.drew (h : StIs w si xi bx mi bs n E f M) : StIs w.drew si xi bx mi bs n E f M := h.below (Below.refl _ _).drew
theorem StIs.c0 (h : StIs w si xi bx mi bs n E f M) : w.cell? ⟨si, 0, none⟩ = some (.int .i64 (n : Int)) := h.blk.cell rfl
theorem StIs.c1 (h : StIs w si xi bx mi bs n E f M) : w.cell? ⟨si, 1, none⟩ = some (.pointer (some ⟨xi, 0, none⟩)) := h.blk.cell rfl
theorem StIs.c2 (h : StIs w si xi bx mi bs n E f M) : w.cell? ⟨si, 2, none⟩ = some (.pointer (some ⟨mi, 0, none⟩)) := h.blk.cell rfl
/-- The blocks that an op turns are none of the others. -/
theorem StIs.apart (h : StIs w si xi bx mi bs n E f M) : si ≠ xi ∧ si ≠ bx ∧ si ≠ mi ∧ si ≠ bs ∧ xi ≠ bx ∧ xi ≠ mi ∧ xi ≠ bs ∧ mi ≠ bx ∧ mi ≠ bs :=
 ⟨blk_ne_ty h.blk h.idx.blk (by decide), blk_ne_map h.idx.map h.blk, blk_ne_ty h.blk h.maps.blk (by decide), blk_ne_map h.maps.map h.blk, blk_ne_map h.idx.map h.idx.blk, blk_ne_ty h.idx.blk h.maps.blk (by decide), blk_ne_map h.maps.map h.idx.blk, blk_ne_map h.idx.map h.maps.blk, blk_ne_map h.maps.map h.maps.blk⟩
theorem StIs.newMaps {f' : MpF} {M' : SnM} {T : List Nat} (h : StIs w si xi bx mi bs n E f M) (hm : MapsIs w' mi bs n f' M') (hb : Tch T w w') (hT : ∀ k ∈ T, k = mi ∨ k = bs) : StIs w' si xi bx mi bs n E f' M' := by
 have ha := h.apart
 have hne := h.ne
 have g : ∀ k, k ≠ mi → k ≠ bs → k ∉ T := fun k h1 h2 hk => by rcases hT k hk with e | e; exact h1 e; exact h2 e
 exact ⟨h.blk.tch hb (g _ ha.2.2.1 ha.2.2.2.1), h.idx.tch hb (g _ ha.2.2.2.2.2.1 ha.2.2.2.2.2.2.1) (g _ (fun e => ha.2.2.2.2.2.2.2.1 e.symm) hne), hm, hne⟩
theorem StIs.newIdx {E' : ExM} {T : List Nat} (h : StIs w si xi bx mi bs n E f M) (hx : IdxIs w' xi bx E') (hb : Tch T w w') (hT : ∀ k ∈ T, k = bx) : StIs w' si xi bx mi bs n E' f M := by
 have ha := h.apart
 have hne := h.ne
 have g : ∀ k, k ≠ bx → k ∉ T := fun k h1 hk => h1 (hT k hk)
 exact ⟨h.blk.tch hb (g _ ha.2.1), hx, h.maps.tch hb (g _ ha.2.2.2.2.2.2.2.1) (g _ (fun e => hne e.symm)) (fun p hp => g _ (blk_ne_map h.idx.map (h.maps.each p hp))), hne⟩
end
theorem built_st (n : Int) (x m : Option Addr) : Tryz.prog.built 214 [(0, .int .i64 n), (1, .pointer x), (2, .pointer m)] = some (stC n x m) := by kernel_rfl
def StNewPost (n : Nat) (w : World) (e : Ending) (w' : World) : Prop := ∃ si xi bx mi bs, e = .returned (.pointer (some ⟨si, 0, none⟩)) ∧ StIs w' si xi bx mi bs n [] zF [] ∧ Below w.heap.size w w' ∧ w.heap.size ≤ si ∧ w.heap.size ≤ xi ∧ w.heap.size ≤ bx ∧ w.heap.size ≤ mi ∧ w.heap.size ≤ bs
theorem st_new (k : Nat) (hk : 1 ≤ k ∧ k ≤ 512) (w : World) : Calls Tryz.prog 81 #[.int .i64 (k : Int)] w (StNewPost k w) := by
 have HK := yH hk
 clear hk
 go_enter Tryz.func81, Tryz.ntmps81
 go_wp2_with (first
  | (go_at_call 145; refine (maps_new k HK.out w).mono ?_; rintro e w1 ⟨mi, bs, rfl, hm, h1, h2, hb⟩; have M1 := yH hm; have A1 := yH (And.intro h1 h2); have L1 := yH hb; clear hm h1 h2 hb)
  | (go_at_call 146; refine (idx_new w1).mono ?_; rintro e w2 ⟨xi, bx, rfl, hx, h1, h2, hb⟩; have X2 := yH hx; have A2 := yH (And.intro h1 h2); have L2 := yH hb; clear hx h1 h2 hb)
  | ((with_reducible show wpList _ _ _ (_ :: _) _ _); refine wpl_mk rfl 214 #[(0, .tmp 8), (1, .tmp 9), (2, .tmp 10)] rfl [(0, .int .i64 (k : Int)), (1, .pointer (some ⟨xi, 0, none⟩)), (2, .pointer (some ⟨mi, 0, none⟩))] rfl _ (built_st _ _ _) ?_)
  | ((with_reducible show wpList _ _ _ (_ :: _) _ _); refine wpl_box rfl 214 (.tmp 11) rfl _ rfl ?_; intro w3 hk hg hz; have K := yH hk; have G := yH hg; clear hk hg hz))
 go_ret
 have hL2 : Below w1.heap.size w1 w2 := L2.out
 have hw1 := L1.out.size
 have hw2 := L2.out.size
 have hbx := X2.out.map.lt
 have hbs := M1.out.map.lt
 have hA2 := A2.out
 have hA1 := A1.out
 refine ⟨w2.heap.size, xi, bx, mi, bs, rfl, ⟨K.out, X2.out.grown G.out, (M1.out.below hL2).grown G.out, by omega⟩, bl_n (below_chain L1.out hL2) G.out, by omega, by omega, by omega, by omega, by omega⟩
theorem st_there {w : World} {si xi bx mi bs n : Nat} {E : ExM} {f : MpF} {M : SnM} (h : StIs w si xi bx mi bs n E f M) : Calls Tryz.prog 181 #[.pointer (some ⟨si, 0, none⟩)] w fun e w' => e = .returned (.bool true) ∧ w = w' := by
 have c0 := h.c0
 have hn : 0 < n := h.maps.low
 clear h
 go_enter Tryz.func181, Tryz.ntmps181
 go_wp2
 go_ret
 exact ⟨rfl, rfl⟩
theorem st_index {w : World} {si xi bx mi bs n : Nat} {E : ExM} {f : MpF} {M : SnM} (h : StIs w si xi bx mi bs n E f M) : Calls Tryz.prog 119 #[.pointer (some ⟨si, 0, none⟩)] w fun e w' => e = .returned (.pointer (some ⟨xi, 0, none⟩)) ∧ w = w' := by
 have H := yH h
 have c1 := h.c1
 clear h
 go_enter Tryz.func119, Tryz.ntmps119
 go_wp2_with (go_at_call 181; refine (st_there H.out).mono ?_; rintro e w1 ⟨rfl, rfl⟩)
 go_ret
 exact ⟨rfl, rfl⟩
theorem st_maps {w : World} {si xi bx mi bs n : Nat} {E : ExM} {f : MpF} {M : SnM} (h : StIs w si xi bx mi bs n E f M) : Calls Tryz.prog 107 #[.pointer (some ⟨si, 0, none⟩)] w fun e w' => e = .returned (.pointer (some ⟨mi, 0, none⟩)) ∧ w = w' := by
 have H := yH h
 have c2 := h.c2
 clear h
 go_enter Tryz.func107, Tryz.ntmps107
 go_wp2_with (go_at_call 181; refine (st_there H.out).mono ?_; rintro e w1 ⟨rfl, rfl⟩)
 go_ret
 exact ⟨rfl, rfl⟩
end Go.Proofs.YtffalfacakdhkaaGreatDoor
namespace Go.Proofs.YtffalfacakdhkaaGreatDoor
open Go.RowKit Go.Maps Go.Sort Go.Shelf
set_option linter.unusedVariables false
set_option linter.unusedSimpArgs false

theorem opc_cells {w : World} {b : Nat} {o : OpV} {A : Option Addr} {c : Nat} {B : Option Addr} {d : Nat} (h : Blk w b 138 (opC o A c B d).toArray) :
  w.cell? ⟨b, 0, none⟩ = some (.int .u8 o.kind) ∧ w.cell? ⟨b, 1, none⟩ = some (.int .i64 o.pos) ∧ w.cell? ⟨b, 2, none⟩ = some (.int .i64 o.n) ∧ w.cell? ⟨b, 3, none⟩ = some (.int .i64 o.snap) ∧ w.cell? ⟨b, 4, none⟩ = some (.slice A o.news.length c) ∧ w.cell? ⟨b, 5, none⟩ = some (.slice B o.puts.length d) :=
 ⟨h.cell rfl, h.cell rfl, h.cell rfl, h.cell rfl, h.cell rfl, h.cell rfl⟩
/-- What a small op ends with: an error's number, and what the maps are. -/
def SmallPost (si xi bx mi bs n : Nat) (E : ExM) (R : Int → MpF → SnM → Prop) (w : World) (e : Ending) (w' : World) : Prop :=
 ∃ r f' M', e = .returned (.int .i64 r) ∧ R r f' M' ∧ StIs w' si xi bx mi bs n E f' M' ∧ Tch [mi, bs] w w'
theorem tch_two {mi bs : Nat} {T : List Nat} {w w1 w2 : World} (hb : Below w.heap.size w w1) (hT : Tch T w1.drew w2) (h : ∀ k ∈ T, k = mi ∨ k = bs) : Tch [mi, bs] w w2 := by
 have h1 : Tch [mi, bs] w w1.drew := Tch.below hb.drew
 exact h1.trans (hT.mono (fun k hk => by rcases h k hk with rfl | rfl <;> simp))
/-- A snapshot is kept, at whatever place. -/
def SnapR (f : MpF) (M : SnM) (id : Int) (r : Int) (f' : MpF) (M' : SnM) : Prop := r = snapE M id ∧ f' = f ∧ ((snapE M id ≠ 0 ∧ M' = M) ∨ (snapE M id = 0 ∧ ∃ g, M' = aput M id (g, f)))
theorem snapshot_any {w : World} {si xi bx mi bs n : Nat} {E : ExM} {f : MpF} {M : SnM} (h : StIs w si xi bx mi bs n E f M) (o : OpV) (A : Option Addr) (c : Nat) (B : Option Addr) (d : Nat) (hi : True) :
  Calls Tryz.prog 244 #[.pointer (some ⟨si, 0, none⟩), .agg (opC o A c B d).toArray] w (SmallPost si xi bx mi bs n E (fun r f' M' => SnapR f M o.snap r f' M') w) := by
 have H := yH h
 clear h
 have HI := yH hi
 clear hi
 go_enter Tryz.func244, Tryz.ntmps244
 go_upto_region 1 with ((with_reducible show wpList _ _ _ (_ :: _) _ _); refine wpl_box rfl 138 (.tmp 1) rfl _ rfl ?_; intro w1 hk hg hz; have K := yH hk; have L1 := yH (bl_n (Below.refl _ _) hg); clear hk hg hz)
 have H1 := yH (H.out.below L1.out)
 have c2 := H1.out.c2
 have hc := opc_cells K.out
 obtain ⟨k0, k1, k2, k3, k4, k5⟩ := hc
 refine wp_region_qs (fun _ w' => w'.cell? ⟨si, 2, none⟩ = some (.pointer (some ⟨mi, 0, none⟩)) ∧ w'.cell? ⟨w.heap.size, 3, none⟩ = some (.int .i64 o.snap)) [(0, some 1), (1, some 1), (2, some 1), (3, some 0), (4, some 1), (5, some 0), (6, none), (7, some 1)] (by kernel_rfl) (by kernel_rfl) (by kernel_rfl) (by kernel_rfl) (by kernel_rfl) (fun _ _ _ _ _ h => h) ⟨c2, k3⟩ ?_
 simp only [yD, yE, yF, yG]
 (repeat (first | (refine qs_mid (v := ?_) (by rfl) ?_ ?_; rotate_left 1; (· (intro j w' hj1 hj2 hS; go_simp; (try (simp only [↓IntWalk.iteOmega]; go_simp)); (try simp (disch := omega) only [IntWalk.i64_in]); try with_reducible rfl)); simp only [Act.put, yA, yB, yC]) | (refine qs_skip (by rfl) ?_; simp only [Act.put, yA, yB, yC])))
 refine qs_act ?_
 go_wp2_with (go_at_call 224; refine (snap_any H1.out.drew.maps o.snap).mono ?_; rintro e w2 ⟨rfl, h2, h1⟩; have M1 := yH h1; have T2 := yH h2; clear h1 h2; obtain ⟨M', hM', hR⟩ : ∃ M', MapsIs w2 mi bs n f M' ∧ SnapR f M o.snap (snapE M o.snap) f M' := (by rcases M1.out with ⟨h1, h2⟩ | ⟨h1, g, h2, _⟩; exact ⟨_, h2, rfl, rfl, .inl ⟨h1, rfl⟩⟩; exact ⟨_, h2, rfl, rfl, .inr ⟨h1, g, rfl⟩⟩); have M2 := yH hM'; have HR := yH hR; clear hM' hR M1)
 have Kd := yH K.out.drew
 have c2' := (H1.out.drew.newMaps M2.out T2.out (fun k hk => by simp at hk; exact .inr hk)).c2
 have hne : w.heap.size ∉ ([bs] : List Nat) := by
  have := H.out.maps.blk.lt
  have := H.out.maps.map.lt
  simp
  omega
 have hc2 := opc_cells (Kd.out.tch T2.out hne)
 refine ⟨⟨c2', hc2.2.2.2.1⟩, ?_⟩
 (repeat (first | (refine qs_mid (v := ?_) (by rfl) ?_ ?_; rotate_left 1; (· (intro j w' hj1 hj2 hS; go_simp; (try (simp only [↓IntWalk.iteOmega]; go_simp)); (try simp (disch := omega) only [IntWalk.i64_in]); try with_reducible rfl)); simp only [Act.put, yA, yB, yC]) | (refine qs_skip (by rfl) ?_; simp only [Act.put, yA, yB, yC])))
 refine qs_nil ?_
 go_wp2_with fail
 go_ret
 exact ⟨_, _, _, rfl, HR.out, H1.out.drew.newMaps M2.out T2.out (fun k hk => by simp at hk; exact .inr hk), tch_two L1.out T2.out (fun k hk => by simp at hk; exact .inr hk)⟩
theorem drop_st {w : World} {si xi bx mi bs n : Nat} {E : ExM} {f : MpF} {M : SnM} (h : StIs w si xi bx mi bs n E f M) (o : OpV) (A : Option Addr) (c : Nat) (B : Option Addr) (d : Nat) (hi : -9223372036854775808 ≤ o.snap ∧ o.snap ≤ 9223372036854775807) :
  Calls Tryz.prog 245 #[.pointer (some ⟨si, 0, none⟩), .agg (opC o A c B d).toArray] w (SmallPost si xi bx mi bs n E (fun r f' M' => r = dropE M o.snap ∧ f' = f ∧ M' = adel M o.snap) w) := by
 have H := yH h
 clear h
 have HI := yH hi
 clear hi
 go_enter Tryz.func245, Tryz.ntmps245
 go_upto_region 1 with ((with_reducible show wpList _ _ _ (_ :: _) _ _); refine wpl_box rfl 138 (.tmp 1) rfl _ rfl ?_; intro w1 hk hg hz; have K := yH hk; have L1 := yH (bl_n (Below.refl _ _) hg); clear hk hg hz)
 have H1 := yH (H.out.below L1.out)
 have c2 := H1.out.c2
 have hc := opc_cells K.out
 obtain ⟨k0, k1, k2, k3, k4, k5⟩ := hc
 refine wp_region_qs (fun _ w' => w'.cell? ⟨si, 2, none⟩ = some (.pointer (some ⟨mi, 0, none⟩)) ∧ w'.cell? ⟨w.heap.size, 3, none⟩ = some (.int .i64 o.snap)) [(0, some 1), (1, some 1), (2, some 1), (3, some 0), (4, some 1), (5, some 0), (6, none), (7, some 1)] (by kernel_rfl) (by kernel_rfl) (by kernel_rfl) (by kernel_rfl) (by kernel_rfl) (fun _ _ _ _ _ h => h) ⟨c2, k3⟩ ?_
 simp only [yD, yE, yF, yG]
 (repeat (first | (refine qs_mid (v := ?_) (by rfl) ?_ ?_; rotate_left 1; (· (intro j w' hj1 hj2 hS; go_simp; (try (simp only [↓IntWalk.iteOmega]; go_simp)); (try simp (disch := omega) only [IntWalk.i64_in]); try with_reducible rfl)); simp only [Act.put, yA, yB, yC]) | (refine qs_skip (by rfl) ?_; simp only [Act.put, yA, yB, yC])))
 refine qs_act ?_
 go_wp2_with (go_at_call 317; refine (drop_any H1.out.drew.maps o.snap HI.out).mono ?_; rintro e w2 ⟨rfl, h2, h1⟩; have M2 := yH h1; have T2 := yH h2; clear h1 h2)
 have Kd := yH K.out.drew
 have c2' := (H1.out.drew.newMaps M2.out T2.out (fun k hk => by simp at hk; exact .inr hk)).c2
 have hne : w.heap.size ∉ ([bs] : List Nat) := by
  have := H.out.maps.blk.lt
  have := H.out.maps.map.lt
  simp
  omega
 have hc2 := opc_cells (Kd.out.tch T2.out hne)
 refine ⟨⟨c2', hc2.2.2.2.1⟩, ?_⟩
 (repeat (first | (refine qs_mid (v := ?_) (by rfl) ?_ ?_; rotate_left 1; (· (intro j w' hj1 hj2 hS; go_simp; (try (simp only [↓IntWalk.iteOmega]; go_simp)); (try simp (disch := omega) only [IntWalk.i64_in]); try with_reducible rfl)); simp only [Act.put, yA, yB, yC]) | (refine qs_skip (by rfl) ?_; simp only [Act.put, yA, yB, yC])))
 refine qs_nil ?_
 go_wp2_with fail
 go_ret
 exact ⟨_, _, _, rfl, ⟨rfl, rfl, rfl⟩, H1.out.drew.newMaps M2.out T2.out (fun k hk => by simp at hk; exact .inr hk), tch_two L1.out T2.out (fun k hk => by simp at hk; exact .inr hk)⟩
end Go.Proofs.YtffalfacakdhkaaGreatDoor
namespace Go.Proofs.YtffalfacakdhkaaGreatDoor
open Go.RowKit Go.Maps Go.Sort Go.Shelf
set_option linter.unusedVariables false
set_option linter.unusedSimpArgs false

theorem slIs_len (n : Nat) (g : MpF) (id : Int) : (slIs n g id).length ≤ n := by
 induction n with
 | zero => simp [slIs]
 | succ n ih =>
  have := slI_len g id n
  rw [slIs_succ, List.length_append]
  omega
theorem mSl_len (n : Nat) (hn : n ≤ 512) (f : MpF) (M : SnM) : ∀ ids : List Int, (mSl n f M ids).length ≤ ids.length * 512
 | [] => by simp [mSl]
 | id :: ids => by
  have h1 := mSl_len n hn f M ids
  have h2 := slIs_len n (gAt f M id) id
  unfold mSl at *
  rw [List.flatMap_cons, List.length_append, List.length_cons]
  omega
theorem mItems_len {n : Nat} (hn : n ≤ 512) (f : MpF) (M : SnM) : (mItems n f M).length ≤ (M.length + 1) * 512 + M.length := by
 have h1 := mSl_len n hn f M (0 :: sIds M)
 unfold mItems
 rw [List.length_append, List.length_map, sIds_len]
 rw [List.length_cons, sIds_len] at h1
 omega
/-- A state's items. -/
def stItems (n : Nat) (E : ExM) (f : MpF) (M : SnM) : List It := xItems E ++ mItems n f M
theorem st_items {w : World} {si xi bx mi bs n : Nat} {E : ExM} {f : MpF} {M : SnM} (h : StIs w si xi bx mi bs n E f M) (hE : E.length ≤ 100000000) (hM : IdsOk M) :
  Calls Tryz.prog 228 #[.pointer (some ⟨si, 0, none⟩)] w (MItPost (stItems n E f M) w) := by
 have H := yH h
 have HE := yH hE
 have HM := yH hM
 have c0 := h.c0
 have c1 := h.c1
 have c2 := h.c2
 clear h hE hM
 go_enter Tryz.func228, Tryz.ntmps228
 go_wp2_with (go_at_call 181; refine (st_there H.out).mono ?_; rintro e w1 ⟨rfl, rfl⟩)
 refine wp_region_qs (fun _ w' => w'.cell? ⟨si, 1, none⟩ = some (.pointer (some ⟨xi, 0, none⟩)) ∧ w'.cell? ⟨si, 2, none⟩ = some (.pointer (some ⟨mi, 0, none⟩))) [(0, some 3), (1, some 3), (2, some 3), (3, some 2), (5, some 3), (6, some 3), (7, some 3), (8, some 2), (4, none), (9, none), (10, none), (11, some 3)] (by kernel_rfl) (by kernel_rfl) (by kernel_rfl) (by kernel_rfl) (by kernel_rfl) (fun _ _ _ _ _ h => h) ⟨c1, c2⟩ ?_
 simp only [yD, yE, yF, yG]
 (repeat (first | (refine qs_mid (v := ?_) (by rfl) ?_ ?_; rotate_left 1; (· (intro j w' hj1 hj2 hS; go_simp; (try (simp only [↓IntWalk.iteOmega]; go_simp)); (try simp (disch := omega) only [IntWalk.i64_in]); try with_reducible rfl)); simp only [Act.put, yA, yB, yC]) | (refine qs_skip (by rfl) ?_; simp only [Act.put, yA, yB, yC])))
 refine qs_act ?_
 go_wp2_with (go_at_call 153; refine (xItems_any H.out.drew.idx HE.out).mono ?_; rintro e w2 ⟨v, rfl, ho, hb⟩; have O2 := yH ho; have L2 := yH hb; clear ho hb)
 have L2' := yH (show Below w.heap.size w w2 from below_chain (Below.refl _ _).drew L2.out)
 have H2 := yH (H.out.below L2'.out)
 refine ⟨⟨H2.out.c1, H2.out.c2⟩, ?_⟩
 refine qs_act ?_
 go_wp2_with (go_at_call 158; refine (mItems_any H2.out.maps HM.out).mono ?_; rintro e w3 ⟨v3, rfl, ho, hb⟩; have O3 := yH ho; have L3 := yH hb; clear ho hb)
 have H3 := yH (H2.out.below L3.out)
 refine ⟨⟨H3.out.c1, H3.out.c2⟩, ?_⟩
 refine qs_act ?_
 have O2' := yH (own_belowR O2.out L3.out)
 have hl := yH (show (xItems E).length + (mItems n f M).length ≤ 1000000000 by
  have h1 := mItems_len H.out.maps.high f M
  have h2 := xItems_len E
  have h3 := HE.out
  have h4 := HM.out.1
  omega)
 go_wp2_with ((with_reducible show wpList _ _ _ (_ :: _) _ _); refine wpl_app_its rfl (.tmp 10) (.tmp 15) rfl w.heap.size v (xItems E) rfl O2'.out v3 (mItems n f M) rfl (Src.of_own O3.out) hl.out (Nat.le_trans L2'.out.size L3.out.size) ?_; intro v4 w4 ho hg; have O4 := yH ho; have G4 := yH hg; clear ho hg)
 have L4 := yH (show Below w.heap.size w w4 from (below_chain L2'.out L3.out).grown G4.out (Nat.le_trans L2'.out.size L3.out.size) (fun k hk => (own_at O2'.out k hk).1))
 have H4 := yH (H.out.below L4.out)
 refine ⟨⟨H4.out.c1, H4.out.c2⟩, ?_⟩
 (repeat (first | (refine qs_mid (v := ?_) (by rfl) ?_ ?_; rotate_left 1; (· (intro j w' hj1 hj2 hS; go_simp; (try (simp only [↓IntWalk.iteOmega]; go_simp)); (try simp (disch := omega) only [IntWalk.i64_in]); try with_reducible rfl)); simp only [Act.put, yA, yB, yC]) | (refine qs_skip (by rfl) ?_; simp only [Act.put, yA, yB, yC])))
 refine qs_nil ?_
 go_wp2_with fail
 go_ret
 exact ⟨_, rfl, O4.out, L4.out⟩
theorem countC_nil : countC [] = [] := by simp [countC, cntL, sumF, rowCn, nz]
set_option maxRecDepth 100000 in
set_option maxHeartbeats 1000000 in
theorem makes_nil {w : World} (n : Int) (A : Option Addr) (c : Nat) : Calls Tryz.prog 219 #[.int .i64 n, .slice A 0 c] w fun e w' => e = .returned (.bool true) ∧ Below w.heap.size w w' := by
 have hmm := @run_makeMap Tryz.prog
 go_enter Tryz.func219, Tryz.ntmps219
 go_wp2_with fail
 obtain ⟨w1, hw1⟩ : ∃ w1, w1 = w.alloc (Obj.map #[] 0) := ⟨_, rfl⟩
 have L1 := yH (show Below w.heap.size w w1 by rw [hw1]; exact (Below.refl _ _).alloc (Nat.le_refl _) _)
 rw [← hw1]
 clear hw1
 go_loopg [6, 25] 0 (fun k sv iv wr => sv = .int .i64 0 ∧ iv = .int .i64 0 ∧ Below w.heap.size w wr)
 case atStart => exact ⟨rfl, rfl, L1.out⟩
 case round =>
  obtain ⟨rfl, rfl, hb⟩ := hrel
  have L2 := yH hb
  clear hb L1
  go_wp2_with fail
  obtain ⟨w2, hw2⟩ : ∃ w2, w2 = wr.alloc (Obj.map #[] 0) := ⟨_, rfl⟩
  have L3 := yH (show Below w.heap.size w w2 by rw [hw2]; exact L2.out.alloc L2.out.size _)
  rw [← hw2]
  clear hw2
  have HS := yH (show ∀ W : World, Src W 73 (.slice A 0 c) 0 (itsC []) from fun W => ⟨A, c, rfl, rfl, fun h => absurd h (by omega)⟩)
  go_wp2_with (go_at_call 247; refine (count_any (HS.out w2) rfl (by omega)).mono ?_; rintro e w3 ⟨v, rfl, ho, hb⟩; rw [countC_nil] at ho; have O := yH (show w3.ownsRow w2.heap.size 368 33 v 0 [] from ho); have L4 := yH (below_chain L3.out hb); clear ho hb; obtain ⟨A3, c3, rfl, -⟩ := Src.of_own O.out)
  go_loopg [60] 0 (fun k iv wr => iv = .int .i64 0 ∧ Below w.heap.size w wr)
  case atStart => exact ⟨rfl, L4.out⟩
  case round =>
   obtain ⟨rfl, hb⟩ := hrel
   have L5 := yH hb
   clear hb L4
   go_wp2_with fail
   go_loopg [72] 0 (fun k iv wr => iv = .int .i64 0 ∧ Below w.heap.size w wr)
   case atStart => exact ⟨rfl, L5.out⟩
   case round =>
    obtain ⟨rfl, hb⟩ := hrel
    have L6 := yH hb
    clear hb L5
    go_wp2_with fail
    go_ret
    exact ⟨rfl, L6.out⟩
end Go.Proofs.YtffalfacakdhkaaGreatDoor
namespace Go.Proofs.YtffalfacakdhkaaGreatDoor
open Go.RowKit Go.Maps Go.Sort Go.Shelf
set_option linter.unusedVariables false
set_option linter.unusedSimpArgs false

def frM (l : List Fr) : SuM := l.foldl (fun S p => aput S p.key p.pl.uni) []
theorem aput_len {α β : Type} [DecidableEq α] (M : List (α × β)) (k : α) (v : β) : (aput M k v).length ≤ M.length + 1 := by
 unfold aput adel
 have := List.length_filter_le (fun p => decide (p.1 ≠ k)) M
 simp at this ⊢
 first | exact this | omega
theorem snoc_ind {α : Type} {motive : List α → Prop} (nil : motive []) (append_singleton : ∀ l x, motive l → motive (l ++ [x])) (l : List α) : motive l := by
 rw [← List.reverse_reverse l]
 induction l.reverse with
 | nil => exact nil
 | cons x l ih => rw [List.reverse_cons]; exact append_singleton _ _ ih
def thereB (E : ExM) (l : List Fr) : Bool := l.any (fun p => (aget E p.key).isSome)
def uniOf (E : ExM) (S : SuM) (K : Key) : Int := match aget S K with | some u => u | none => ((aget E K).getD zPl).uni
def putOk (n : Nat) (E : ExM) (S : SuM) (p : Pu) : Bool := decide (p.unit < n) && decide (p.sl.off < uniOf E S p.sl.key)
def wantedB (l : List Pu) (p : Fr) : Bool := decide (p.key ∈ l.map (·.sl.key))
def wrE (n : Nat) (E : ExM) (o : OpV) : Int :=
 if thereB E o.news = true then 7 else if o.puts.all (putOk n E (frM o.news)) = false then 2 else if o.news.all (wantedB o.puts) = false then 2 else 0
def addAll (E : ExM) (l : List Fr) : ExM := l.foldl (fun E p => addX E p.key p.pl) E
def setAll (n : Nat) (f : MpF) (l : List Pu) : MpF := l.foldl (fun f p => setF n f p.unit p.sl) f
theorem addAll_snoc (E : ExM) (l : List Fr) (p : Fr) : addAll E (l ++ [p]) = addX (addAll E l) p.key p.pl := by simp [addAll, List.foldl_append]
theorem addAll_len (E : ExM) (l : List Fr) : (addAll E l).length ≤ E.length + l.length := by
 induction l using snoc_ind with
 | nil => simp [addAll]
 | append_singleton l p ih =>
  have h1 := aput_len (addAll E l) p.key p.pl
  rw [addAll_snoc, List.length_append, List.length_singleton]
  unfold addX
  split <;> omega
def Off (m : Nat) (T : List Nat) (A : Option Addr) : Prop := 0 < m → ∀ p, A = some p → p.block ∉ T
end Go.Proofs.YtffalfacakdhkaaGreatDoor
