/-
  what this claim needs of: StM7, StM8 (written by cut.py).
-/
import Derived.Test.YtpadifphnbdbpaaGreatPStM
import Derived.Test.YtpadifphnbdbpaaGreatPLayg
namespace Go.Proofs.YtpadifphnbdbpaaGreat
open Go.RowKit Go.Maps Go.Sort Go.Shelf
set_option linter.unusedVariables false
set_option linter.unusedSimpArgs false

theorem own_lo {w : World} {base base' : Nat} {e : TypeId} {size n : Nat} {v : Value} {xs : List Value} (h : w.ownsRow base' e size v n xs) (hb : base ≤ base') : w.ownsRow base e size v n xs := by
  refine ⟨h.1, h.2.imp id ?_⟩
  rintro ⟨g, cap, cur, e1, a1, r⟩
  exact ⟨g, cap, cur, e1, Nat.le_trans hb a1, r⟩
theorem sortsA (m : Nat) : AnyZI.SortsIn Tryz.prog Tryz.sortedA_ren Fence.wide m :=
  ⟨fun blk off cap ss W hH hblk hsz => callsIn_wide.2 (AnyM.slices_Sort_int Tryz.sortA blk off cap ss W hH hblk hsz),
   fun p cap W => callsIn_wide.2 (AnyM.slices_Sort_int_none Tryz.sortA p cap W)⟩
def sIds (M : SnM) : List Int := (M.map (·.1)).mergeSort leI
theorem sIds_perm (M : SnM) : (sIds M).Perm (M.map (·.1)) := List.mergeSort_perm _ _
theorem sIds_len (M : SnM) : (sIds M).length = M.length := by rw [(sIds_perm M).length_eq, List.length_map]
def IdsPost (M : SnM) (w : World) (e : Ending) (w' : World) : Prop := ∃ v, e = .returned v ∧ w'.ownsRow w.heap.size 3 1 v M.length ((sIds M).map (Value.int .i64)) ∧ (v = .slice none 0 0 ↔ M = []) ∧ Below w.heap.size w w'
set_option maxHeartbeats 1000000 in
theorem ids_any {w : World} {mi bs n : Nat} {f : MpF} {M : SnM} (h : MapsIs w mi bs n f M) (hM : M.length ≤ 1000000) : Calls Tryz.prog 87 #[.pointer (some ⟨mi, 0, none⟩)] w (IdsPost M w) := by
  have c0 := h.s_cell
  obtain ⟨es, hown, hp, hk, hu⟩ := h.map
  have hbl := hown.lt
  have hsize : Maps.size (DataW.map es) = M.length := by rw [Maps.size_eq, hp.length_eq, List.length_map]
  have hkeys : (intKeys (DataW.map es)).Perm (M.map (·.1)) := by
    unfold intKeys
    have := hp.map (fun p : Lit × DataW Value => (intKeys (.map [p])).headD 0)
    rw [List.map_map] at this
    exact this
  have hmax : Maps.size (DataW.map es) ≤ maxLen := by rw [hsize]; unfold maxLen; omega
  have hbytes : Maps.size (DataW.map es) * 8 ≤ 140737488355328 := by rw [hsize]; omega
  refine (callsIn_wide (n := 6)).1 ?_
  have hseq : SeqGives Fence.wide 2 Tryz.prog 157 #[.pointer (some ⟨w.heap.size, 0, none⟩)] encZ (fun ss => ss.Perm (intKeys (DataW.map es))) (Maps.size (DataW.map es)) (w.alloc (.cells #[.map (some bs)] 88)) :=
    AnyZI.keys_gives (ρ := Tryz.keysA_ren) { Tryz.keysA with } Fence.wide _ trivial rfl (by omega) w.heap.size bs _ (DataW.map es) _ (by simp) (by simp) (by
      obtain ⟨es, clock, hb, Ft, hs, hD⟩ := hown
      exact ⟨es, clock, (Below.heap_alloc _ _ bs hbl).trans hb, Ft, hs, hD⟩)
  have cK : ∀ mb W, CallsIn Fence.wide 5 Tryz.prog 125 #[.map mb] W fun e w' => e = .returned (.func (.func 157) #[] #[.pointer (some ⟨W.heap.size, 0, none⟩)]) ∧ w' = W.alloc (.cells #[.map mb] 88) := fun mb W => AnyZI.keys_in Tryz.keysA Fence.wide 5 trivial rfl mb W
  have cS := AnyZI.sorted_in Tryz.sortedA Fence.wide 5 trivial trivial trivial trivial rfl (by omega) (sortsA _) (enters_of Tryz.func156 (by kernel_rfl) rfl) 157 #[.pointer (some ⟨w.heap.size, 0, none⟩)] trivial (enters_of Tryz.func157 (by kernel_rfl) rfl) _ _ hmax hbytes _ hseq
  change CallsIn _ _ Tryz.prog 124 _ _ _ at cS
  have hfK : Fence.wide.fn 125 := trivial
  have hfS : Fence.wide.fn 124 := trivial
  have HS := Lib.hid hsize
  have HK := Lib.hid hkeys
  have HH := Lib.hid h
  clear hsize hkeys hown hp hk hu h hseq hmax hbytes hM hbl
  refine callsIn_of_wp Tryz.func87 rfl trivial ?_ rfl
  simp only [Tryz.ntmps87, List.size_toArray, List.length_cons, List.length_nil, Nat.reduceAdd, Nat.reduceSub, Array.replicate_succ, Array.replicate_zero, List.push_toArray, List.append_toArray, List.nil_append, List.cons_append]
  gi_wp2_with (first
    | (gi_at_call 125; refine (cK _ _).mono ?_; rintro e w' ⟨rfl, rfl⟩)
    | (gi_at_call 124; refine cS.mono ?_; rintro e w' ⟨v, ss, rfl, hS, hrow, hnil, hb⟩; have H1 := Lib.hid hS; have H2 := Lib.hid hrow; have H3 := Lib.hid hnil; have H4 := Lib.hid hb; clear hS hrow hnil hb))
  go_ret
  have hP := H1.out.trans HK.out
  have hl : ss.length = M.length := by rw [hP.length_eq, List.length_map]
  have hrow := H2.out
  have e1 : ss.mergeSort (fun x y => decide (x ≤ y)) = sIds M := mergeSort_of_perm_i hP
  rw [e1, hl] at hrow
  refine ⟨v, rfl, own_lo hrow (by simp), ?_, ((Below.refl _ w).alloc (Nat.le_refl _) _).trans (H4.out.mono (by simp))⟩
  rw [H3.out]
  constructor
  · intro h; rw [h] at hl; exact List.length_eq_zero_iff.1 hl.symm
  · intro h; rw [h] at hl; exact List.length_eq_zero_iff.1 hl
end Go.Proofs.YtpadifphnbdbpaaGreat
namespace Go.Proofs.YtpadifphnbdbpaaGreat
open Go.RowKit Go.Maps
set_option linter.unusedVariables false
set_option linter.unusedSimpArgs false

def slI (g : MpF) (id : Int) (u : Nat) : List It := if (g u).mask = 0 then [] else [⟨2, zKey, zPl, id, (u : Int), g u⟩]
def slIs (n : Nat) (g : MpF) (id : Int) : List It := (List.range n).flatMap (slI g id)
theorem slIs_succ (n : Nat) (g : MpF) (id : Int) : slIs (n + 1) g id = slIs n g id ++ slI g id n := by simp [slIs, List.range_succ]
def gAt (f : MpF) (M : SnM) (id : Int) : MpF := (ofS f M id).getD zF
def mSl (n : Nat) (f : MpF) (M : SnM) (ids : List Int) : List It := ids.flatMap (fun id => slIs n (gAt f M id) id)
def snI (id : Int) : It := ⟨3, zKey, zPl, id, 0, zSl⟩
/-- What maps' Items gives. -/
def mItems (n : Nat) (f : MpF) (M : SnM) : List It := mSl n f M (0 :: sIds M) ++ (sIds M).map snI
theorem ofP_rng {w : World} {mi bs n b off : Nat} {f g : MpF} {M : SnM} {snap : Int} (h : MapsIs w mi bs n f M) (hg : ofS f M snap = some g) (e : ofP mi M snap = .pointer (some ⟨b, off, none⟩)) (u : Nat) (hu : u < 512) : w.rangeAt b (off + u * 34) (slC (g u)) := by
  obtain ⟨b', off', e', _, hr⟩ := ofP_some h hg
  rw [e] at e'
  injection e' with e'
  injection e' with e'
  injection e' with e1 e2
  subst e1 e2
  exact hr u hu
theorem slI_len (g : MpF) (id : Int) (u : Nat) : (slI g id u).length ≤ 1 := by unfold slI; split <;> simp
def IdsOk (M : SnM) : Prop := M.length ≤ 1000 ∧ ∀ p ∈ M, 1 ≤ p.1 ∧ p.1 ≤ 1073741824
theorem sIds_mem {M : SnM} (hM : IdsOk M) {id : Int} (h : id ∈ sIds M) : 1 ≤ id ∧ id ≤ 1073741824 := by
  obtain ⟨p, hp, rfl⟩ := List.mem_map.1 ((sIds_perm M).mem_iff.1 h)
  exact hM.2 p hp
theorem ofS_mem {f : MpF} {M : SnM} {id : Int} (h : id ∈ 0 :: sIds M) : ofS f M id = some (gAt f M id) := by
  unfold gAt ofS
  rcases List.mem_cons.1 h with rfl | h
  · simp
  · split
    · rfl
    · obtain ⟨p, hp, e⟩ := List.mem_map.1 ((sIds_perm M).mem_iff.1 h)
      cases hq : aget M id with
      | none => exact absurd e (aget_none.1 hq p hp)
      | some q => rfl
theorem own_int_cell {w : World} {base g n c : Nat} {zs : List Int} (h : w.ownsRow base 3 1 (.slice (some ⟨g, 0, none⟩) n c) n (zs.map (Value.int .i64))) {i : Nat} (hi : i < zs.length) : w.cell? ⟨g, i, none⟩ = some (.int .i64 (zs[i]'hi)) := by
  have := h.cells (g := g) rfl i (.int .i64 (zs[i]'hi)) (by simp [hi])
  rw [Addr.add_mid, Nat.zero_add] at this
  exact this
theorem own_lit {w : World} {base : Nat} {e : TypeId} (v : Value) (hb : base ≤ w.heap.size) (w' : World) (hk : Blk w' w.heap.size e #[v]) : w'.ownsRow base e 1 (.slice (some ⟨w.heap.size, 0, none⟩) 1 1) 1 [v] :=
  ⟨rfl, .inr ⟨w.heap.size, 1, #[v], rfl, hb, hk, Nat.le_refl _, by unfold maxLen; omega, rfl, rfl⟩⟩
/-- the rows of numbers, and the items so far -/
structure MItI (w : World) (mi bs n : Nat) (f : MpF) (M : SnM) (v4 : Value) (g18 c18 : Nat) (v3 : Value) (l : List It) (wr : World) : Prop where
  maps : MapsIs wr mi bs n f M
  row4 : wr.ownsRow w.heap.size 3 1 v4 M.length ((sIds M).map (Value.int .i64))
  row18 : wr.ownsRow w.heap.size 3 1 (.slice (some ⟨g18, 0, none⟩) (1 + M.length) c18) (1 + M.length) ((0 :: sIds M).map (Value.int .i64))
  out : wr.ownsRow w.heap.size 135 73 v3 l.length (itsC l)
  low : Below w.heap.size w wr
theorem MItI.below {w : World} {mi bs n : Nat} {f : MpF} {M : SnM} {v4 : Value} {g18 c18 : Nat} {v3 : Value} {l : List It} {wr w' : World} (h : MItI w mi bs n f M v4 g18 c18 v3 l wr) (hb : Below wr.heap.size wr w') : MItI w mi bs n f M v4 g18 c18 v3 l w' :=
  ⟨h.maps.below hb, own_belowR h.row4 hb, own_belowR h.row18 hb, own_belowR h.out hb, below_chain h.low hb⟩
theorem MItI.app {w : World} {mi bs n : Nat} {f : MpF} {M : SnM} {v4 : Value} {g18 c18 : Nat} {v3 v' : Value} {l l' : List It} {wr w' : World} (h : MItI w mi bs n f M v4 g18 c18 v3 l wr) (hg : wr.grownBy w' v3.ownBlock) (ho : w'.ownsRow w.heap.size 135 73 v' l'.length (itsC l')) (hlow : mi < w.heap.size ∧ bs < w.heap.size ∧ ∀ p ∈ M, p.2.1 < w.heap.size) : MItI w mi bs n f M v4 g18 c18 v' l' w' := by
  have hmi := h.low.size
  have hb : Below w.heap.size wr w' := ⟨hg.os, hg.tape, hg.output, hg.size, fun k hk => hg.block k (by omega) (fun e => by have := own_at h.out k e.symm; omega)⟩
  exact ⟨⟨h.maps.blk.below hb hlow.1, h.maps.map.below hb hlow.2.1, fun p hp => (h.maps.each p hp).below hb (hlow.2.2 p hp), h.maps.low, h.maps.high⟩,
    own_keptR h.row4 hg (own_apartI h.row4 h.out (by decide)), own_keptR h.row18 hg (own_apartI h.row18 h.out (by decide)), ho, h.low.trans hb⟩
theorem slice_one (n : Nat) (hn : n ≤ 512) (b off : Nat) (W : World) : (Instr.sliceAt 94 (.pointer (some ⟨b, off, none⟩)) none (some (.int .i64 (n : Int))) none).run Tryz.prog W = .ok (.slice (some ⟨b, off, none⟩) n 512) W := by
  have hu : Tryz.prog.underlying 94 = some (.array (Tryz.prog.arrayLen 94) (Tryz.prog.elem 94)) := by kernel_rfl
  have hl : Tryz.prog.arrayLen 94 = 512 := by kernel_rfl
  have he : Tryz.prog.elem 94 = 92 := by kernel_rfl
  rw [run_sliceAt_array_h W _ _ hu _ _ (by omega) (by rw [hl]; omega), hl, he, Tryz.sizeOf92]
  simp only [Result.andThen_ok, slicedAt, Int.toNat_natCast]
  simp [Addr.add_mid]
def MItPost (l : List It) (w : World) (e : Ending) (w' : World) : Prop := ∃ v, e = .returned v ∧ w'.ownsRow w.heap.size 135 73 v l.length (itsC l) ∧ Below w.heap.size w w'
/-- loop 1: i rounds are done. -/
def M1I (w : World) (mi bs n : Nat) (f : MpF) (M : SnM) (v4 : Value) (g18 c18 : Nat) (k : Nat) (v3 iv : Value) (wr : World) : Prop :=
  ∃ (i : Nat) (l : List It), iv = .int .i64 (i : Int) ∧ i ≤ M.length + 1 ∧ i + k ≤ M.length + 1 ∧ M.length + 1 ≤ i + k ∧ l = mSl n f M ((0 :: sIds M).take i) ∧ l.length ≤ i * 512 ∧ MItI w mi bs n f M v4 g18 c18 v3 l wr
def M2I (w : World) (mi bs n : Nat) (f : MpF) (M : SnM) (v4 : Value) (g18 c18 : Nat) (l0 : List It) (g : MpF) (id : Int) (k : Nat) (v3 iv : Value) (wr : World) : Prop :=
  ∃ (j : Nat) (l : List It), iv = .int .i64 (j : Int) ∧ j ≤ n ∧ j + k ≤ n ∧ n ≤ j + k ∧ l = l0 ++ slIs j g id ∧ l.length ≤ l0.length + j ∧ MItI w mi bs n f M v4 g18 c18 v3 l wr
def M3I (w : World) (mi bs n : Nat) (f : MpF) (M : SnM) (v4 : Value) (g18 c18 : Nat) (k : Nat) (v3 iv : Value) (wr : World) : Prop :=
  ∃ (i : Nat) (l : List It), iv = .int .i64 (i : Int) ∧ i ≤ M.length ∧ i + k ≤ M.length ∧ M.length ≤ i + k ∧ l = mSl n f M (0 :: sIds M) ++ ((sIds M).take i).map snI ∧ l.length ≤ (M.length + 1) * 512 + i ∧ MItI w mi bs n f M v4 g18 c18 v3 l wr
theorem mSl_take {n : Nat} {f : MpF} {M : SnM} {ids : List Int} {i : Nat} (hi : i < ids.length) : mSl n f M (ids.take (i + 1)) = mSl n f M (ids.take i) ++ slIs n (gAt f M (ids[i]'hi)) (ids[i]'hi) := by
  unfold mSl
  rw [List.take_succ_eq_append_getElem hi, List.flatMap_append]
  simp
set_option maxRecDepth 100000 in
set_option maxHeartbeats 4000000 in
theorem mItems_any {w : World} {mi bs n : Nat} {f : MpF} {M : SnM} (h : MapsIs w mi bs n f M) (hM : IdsOk M) : Calls Tryz.prog 45 #[.pointer (some ⟨mi, 0, none⟩)] w (MItPost (mItems n f M) w) := by
  have H := Lib.hid h
  have HM := Lib.hid hM
  have hn := h.high
  have hMl := hM.1
  have HL := Lib.hid (show mi < w.heap.size ∧ bs < w.heap.size ∧ ∀ p ∈ M, p.2.1 < w.heap.size from ⟨h.blk.lt, h.map.lt, fun p hp => (h.each p hp).lt⟩)
  have HIl := Lib.hid (sIds_len M)
  clear h hM
  go_enter Tryz.func45, Tryz.ntmps45
  go_upto_region 5 with (first
    | (go_at_call 86; refine (known_any H.out).mono ?_; rintro e w2 ⟨rfl, rfl⟩)
    | (go_at_call 87; refine (ids_any H.out (by omega)).mono ?_; rintro e w1 ⟨v4, rfl, ho, hnil, hb⟩; obtain ⟨A4, c4, rfl, _⟩ := own_slice ho; have O4 := Lib.hid ho; have L1 := Lib.hid hb; clear ho hnil hb))
  have H1 := Lib.hid (H.out.below L1.out)
  have La := Lib.hid (show Below w1.heap.size w1 (w1.alloc (Obj.cells #[Value.int .i64 0] 3)) from (Below.refl _ _).alloc (Nat.le_refl _) _)
  have hsz := L1.out.size
  go_wp2_with (refine app_src rfl (.tmp 16) (.tmp 17) 106 rfl w.heap.size 3 (.int .i64 0) 1 8 Tryz.underlying106 infoInt rfl (by omega) (.slice (some ⟨w1.heap.size, 0, none⟩) 1 1) 1 [.int .i64 0] rfl (own_lit _ hsz _ (Blk.made _ _ _)) (.slice A4 M.length c4) M.length ((sIds M).map (Value.int .i64)) rfl (Src.of_own (own_belowR O4.out La.out)) (by intro y hy; obtain ⟨z, _, rfl⟩ := List.mem_map.1 hy; rfl) (by omega) (by omega) (Nat.le_trans hsz (by simp)) ?_; intro v18 w2 ho hg hv; obtain ⟨g18, c18, rfl, _, _⟩ := ho.form (by omega); have O18 := Lib.hid ho; have G2 := Lib.hid hg; have V18 := Lib.hid hv; clear ho hg hv)
  have L2 := Lib.hid (show Below w.heap.size w w2 from bl_ag L1.out G2.out)
  have I2 := Lib.hid (show MItI w mi bs n f M (.slice A4 M.length c4) g18 c18 (.slice none 0 0) [] w2 from ⟨H.out.below L2.out, own_keptR (own_belowR O4.out La.out) G2.out (fun b e hb => by have := own_at O4.out b hb; injection e with e; simp only at e; omega), O18.out, World.ownsRow_nil _ _ _ _, L2.out⟩)
  clear O4 L1 H1 La hsz O18 G2 V18 L2
  go_loopg [3, 20] (1 + M.length) (fun k v3 iv wr => M1I w mi bs n f M (.slice A4 M.length c4) g18 c18 k v3 iv wr)
  case atStart => exact ⟨0, [], rfl, by omega, by omega, by omega, rfl, by simp, I2.out⟩
  case round =>
    obtain ⟨i, l, rfl, i1, i2, i3, hl, hll, hI⟩ := hrel
    have Ir := Lib.hid hI
    have HLl := Lib.hid hl
    have HLn := Lib.hid hll
    clear hI hl hll I2
    by_cases hi : i < 1 + M.length
    · have hiI : (i : Int) < 1 + (M.length : Int) := by omega
      have hil : i < (0 :: sIds M).length := by rw [List.length_cons, HIl.out]; omega
      have cid := own_int_cell Ir.out.row18 hil
      have hmem : (0 :: sIds M)[i] ∈ 0 :: sIds M := List.getElem_mem hil
      have HTk := Lib.hid (mSl_take (n := n) (f := f) (M := M) hil)
      have hofs := ofS_mem (f := f) (M := M) hmem
      generalize (0 :: sIds M)[i] = id at cid hmem HTk hofs
      have hidr : -9223372036854775808 ≤ id ∧ id ≤ 9223372036854775807 := by
        rcases List.mem_cons.1 hmem with rfl | h
        · omega
        · have := sIds_mem HM.out h
          omega
      have HIr := Lib.hid hidr
      obtain ⟨g, hg⟩ : ∃ g, g = gAt f M id := ⟨_, rfl⟩
      rw [← hg] at hofs HTk
      obtain ⟨b, off, eP, hb, _⟩ := ofP_some Ir.out.maps hofs
      have HOf := Lib.hid hofs
      have HEP := Lib.hid eP
      have c0 := Ir.out.maps.n_cell
      clear hidr hmem hofs hg hb eP
      go_wp2_with fail
      refine wp_region_qs (fun _ w' => w'.cell? ⟨mi, 0, none⟩ = some (.int .i64 (n : Int))) [(0, some 0), (1, some 0), (4, some 1), (5, some 1), (6, some 1), (7, some 1), (10, some 1), (2, none), (3, some 1), (8, some 1), (9, some 1)] (by kernel_rfl) (by kernel_rfl) (by kernel_rfl) (by kernel_rfl) (by kernel_rfl) (fun _ _ _ _ _ h => h) c0 ?_
      simp only [List.map_cons, List.map_nil, List.getD_cons_succ, List.getD_cons_zero]
      (repeat (first | (refine qs_now (v := ?_) (by rfl) ?_ ?_; rotate_left 1; (· (intro w' hS; go_simp; (try (simp only [↓IntWalk.iteOmega]; go_simp)); (try simp (disch := omega) only [IntWalk.i64_in]); try with_reducible rfl)); simp only [Act.put, List.setIfInBounds_toArray, List.set_cons_zero, List.set_cons_succ]) | (refine qs_run (v := ?_) (by rfl) ?_ ?_; rotate_left 1; (· (intro j w' hS; go_simp; (try (simp only [↓IntWalk.iteOmega]; go_simp)); (try simp (disch := omega) only [IntWalk.i64_in]); try with_reducible rfl)); simp only [Act.put, List.setIfInBounds_toArray, List.set_cons_zero, List.set_cons_succ]) | (refine qs_skip (by rfl) ?_; simp only [Act.put, List.setIfInBounds_toArray, List.set_cons_zero, List.set_cons_succ])))
      refine qs_act ?_
      go_wp2_with fail
      refine (of_any (w := wr.drew) (Ir.out.maps.below (Below.refl _ _).drew) id HIr.out).mono ?_
      rw [HEP.out]
      rintro e w' ⟨rfl, rfl⟩
      go_wp2
      refine ⟨c0, ?_⟩
      (repeat (first | ((refine qs_run (v := .slice (some ⟨b, off, none⟩) n 512) (by rfl) (fun j w' hS => by unfold execOp; simp only [Option.map_some, Option.map_none]; show Sem.run _ ((Instr.sliceAt 94 (.pointer (some ⟨b, off, none⟩)) none (some (.int .i64 (n : Int))) none) >>= fun v => pure (Next.value v)) w' = _; rw [Sem.run_bind, slice_one n hn b off w']; rfl) ?_); simp only [Act.put, List.setIfInBounds_toArray, List.set_cons_zero, List.set_cons_succ]) | (refine qs_now (v := ?_) (by rfl) ?_ ?_; rotate_left 1; (· (intro w' hS; go_simp; (try (simp only [↓IntWalk.iteOmega]; go_simp)); (try simp (disch := omega) only [IntWalk.i64_in]); try with_reducible rfl)); simp only [Act.put, List.setIfInBounds_toArray, List.set_cons_zero, List.set_cons_succ]) | (refine qs_run (v := ?_) (by rfl) ?_ ?_; rotate_left 1; (· (intro j w' hS; go_simp; (try (simp only [↓IntWalk.iteOmega]; go_simp)); (try simp (disch := omega) only [IntWalk.i64_in]); try with_reducible rfl)); simp only [Act.put, List.setIfInBounds_toArray, List.set_cons_zero, List.set_cons_succ]) | (refine qs_skip (by rfl) ?_; simp only [Act.put, List.setIfInBounds_toArray, List.set_cons_zero, List.set_cons_succ])))
      refine qs_nil ?_
      obtain ⟨wq, hwq⟩ : ∃ wq, wq = wr.drew := ⟨_, rfl⟩
      have Iq := Lib.hid (show MItI w mi bs n f M (.slice A4 M.length c4) g18 c18 _ l wq by rw [hwq]; exact Ir.out.below (Below.refl _ _).drew)
      rw [← hwq]
      clear hwq c0 cid Ir
      go_wp2_with fail
      go_loopg [3, 34] n (fun k v3 iv wr' => M2I w mi bs n f M (.slice A4 M.length c4) g18 c18 l g id k v3 iv wr')
      case atStart => exact ⟨0, l, rfl, by omega, by omega, by omega, by simp [slIs], by omega, Iq.out⟩
      case round =>
        obtain ⟨j, l2, rfl, j1, j2, j3, hl2, hll2, hI2⟩ := hrel
        have J := Lib.hid hI2
        have HL2 := Lib.hid hl2
        have HLn2 := Lib.hid hll2
        clear hI2 hl2 hll2 Iq
        by_cases hj : j < n
        · have hjI : (j : Int) < (n : Int) := by omega
          have HR := Lib.hid (ofP_rng J.out.maps HOf.out HEP.out j (by omega))
          have hS := slIs_succ j g id
          have HS := Lib.hid hS
          clear hS
          go_upto_region 10 with fail
          go_upto_region 11 with (first
            | ((with_reducible show wpList _ _ _ (_ :: _) _ _); refine wpl_sidx rfl 172 (.tmp 32) (.tmp 34) rfl Tryz.underlying172 Tryz.sizeOf92 b off n 512 j rfl rfl hj ?_)
            | ((with_reducible show wpList _ _ _ (_ :: _) _ _); refine wpList_load_mid rfl 92 (.tmp 37) rfl b (off + j * 34) rfl (slC (g j)) _ HR.out Tryz.underlying92 rfl (slC_info (g j)) ?_)
            | ((with_reducible show wpList _ _ _ (_ :: _) _ _); refine wpl_alloc rfl 92 rfl Tryz.zeroValue92 34 rfl ?_; intro wa cs hk hc hg hz; have K := Lib.hid hk; have C := Lib.hid hc; have G := Lib.hid hg; have Z := Lib.hid hz; clear hk hc hg hz)
            | ((with_reducible show wpList _ _ _ (_ :: _) _ _); refine wpl_over rfl 92 (.tmp 8) (.tmp 38) rfl wr.heap.size (slC (g j)) rfl rfl _ cs K.out (slC_info (g j)) (by rw [slC_len, C.out]) (slC_one _) ?_; intro wb hk hg hz; have K2 := Lib.hid hk; have L2 := Lib.hid (bl_g (bl_n (Below.refl _ _) G.out) hg (Nat.le_refl _)); clear hk hg hz))
          have J2 := Lib.hid (J.out.below L2.out)
          have cm := K2.out.cell (i := 33) (by rw [List.getElem?_toArray]; exact slC_mask (g j))
          by_cases hm : (g j).mask = 0
          · have em : ((g j).mask == 0) = true := beq_iff_eq.2 hm
            have HN := Lib.hid (show slI g id j = [] from if_pos hm)
            clear hm
            go_wp2_with fail
            go_roundg (gk - 1)
            case measure => omega
            case rel => exact ⟨j + 1, l2, rfl, by omega, by omega, by omega, by rw [HS.out, HN.out, List.append_nil]; exact HL2.out, by have := HLn2.out; omega, J2.out⟩
          · have em : ((g j).mask == 0) = false := beq_eq_false_iff_ne.2 hm
            have HN := Lib.hid (show slI g id j = [⟨2, zKey, zPl, id, (j : Int), g j⟩] from if_neg hm)
            have hR2 := K2.out.range
            rw [toArr] at hR2
            have HR2 := Lib.hid hR2
            have hll := HLn2.out
            have hlen0 := HLn.out
            clear hm hR2
            go_wp2_with (first
              | ((with_reducible show wpList _ _ _ (_ :: _) _ _); refine wpList_load_mid rfl 92 (.tmp 8) rfl wr.heap.size 0 rfl (slC (g j)) _ HR2.out Tryz.underlying92 rfl (slC_info (g j)) ?_)
              | ((with_reducible show wpList _ _ _ (_ :: _) _ _); refine wpl_mk rfl 135 #[(0, .const (.int .u8 2)), (3, .tmp 43), (4, .tmp 44), (5, .tmp 45)] rfl [(0, .int .u8 2), (3, .int .i64 id), (4, .int .i64 (j : Int)), (5, .agg (slC (g j)).toArray)] rfl _ (built_sl id j (g j)) ?_)
              | ((with_reducible show wpList _ _ _ (_ :: _) _ _); refine wpl_lit_it rfl (.tmp 46) rfl ⟨2, zKey, zPl, id, (j : Int), g j⟩ rfl ?_; intro wc hk hg hz; have K3 := Lib.hid hk; have G3 := Lib.hid hg; clear hk hg hz; have J3 := Lib.hid (J2.out.below ((Below.refl _ _).grown G3.out (Nat.le_refl _) (by simp))))
              | ((with_reducible show wpList _ _ _ (_ :: _) _ _); refine wpl_app_it rfl (.tmp 42) (.tmp 47) rfl w.heap.size u3 l2 rfl J3.out.out _ ⟨2, zKey, zPl, id, (j : Int), g j⟩ rfl K3.out (by omega) J3.out.low.size ?_; intro v' wd ho hg; have J4 := Lib.hid (J3.out.app hg ho HL.out); clear ho hg))
            go_roundg (gk - 1)
            case measure => omega
            case rel => exact ⟨j + 1, l2 ++ [⟨2, zKey, zPl, id, (j : Int), g j⟩], rfl, by omega, by omega, by omega, by rw [HS.out, HN.out, ← List.append_assoc, HL2.out], by rw [List.length_append]; have := HLn2.out; simp; omega, J4.out⟩
        · have hjI : ¬ (j : Int) < (n : Int) := by omega
          have hjn : j = n := by omega
          subst hjn
          go_wp2_with fail
          go_roundg (M.length - i)
          case measure => omega
          case rel => exact ⟨i + 1, l2, rfl, by omega, by omega, by omega, by rw [HTk.out, ← HLl.out]; exact HL2.out, by have := HLn2.out; have := HLn.out; omega, J.out⟩
    · have hiI : ¬ (i : Int) < 1 + (M.length : Int) := by omega
      have hie : i = 1 + M.length := by omega
      have HLf := Lib.hid (show l = mSl n f M (0 :: sIds M) by rw [HLl.out, List.take_of_length_le (by rw [List.length_cons, HIl.out]; omega)])
      go_wp2_with fail
      go_loopg [3, 53] M.length (fun k v3 iv wr => M3I w mi bs n f M (.slice A4 M.length c4) g18 c18 k v3 iv wr)
      case atStart => exact ⟨0, l, rfl, by omega, by omega, by omega, by rw [HLf.out]; simp, by have := HLn.out; omega, Ir.out⟩
      case round =>
        obtain ⟨q, l2, rfl, q1, q2, q3, hl2, hll2, hI2⟩ := hrel
        have J := Lib.hid hI2
        have HL2 := Lib.hid hl2
        have HLn2 := Lib.hid hll2
        clear hI2 hl2 hll2 Ir
        by_cases hq : q < M.length
        · have hqI : (q : Int) < (M.length : Int) := by omega
          obtain ⟨g4, c5, e4, _, _⟩ := J.out.row4.form (by omega)
          injection e4 with e4 _ e5
          subst e4 e5
          have hql : q < (sIds M).length := by rw [HIl.out]; exact hq
          have cid := own_int_cell J.out.row4 hql
          have HTk := Lib.hid (show ((sIds M).take (q + 1)).map snI = ((sIds M).take q).map snI ++ [snI ((sIds M)[q]'hql)] by rw [List.take_succ_eq_append_getElem hql, List.map_append]; rfl)
          generalize (sIds M)[q] = id at cid HTk
          have hll := HLn2.out
          go_wp2_with (first
            | ((with_reducible show wpList _ _ _ (_ :: _) _ _); refine wpl_mk rfl 135 #[(0, .const (.int .u8 3)), (3, .tmp 58)] rfl [(0, .int .u8 3), (3, .int .i64 id)] rfl _ (built_sn id) ?_)
            | ((with_reducible show wpList _ _ _ (_ :: _) _ _); refine wpl_lit_it rfl (.tmp 59) rfl (snI id) rfl ?_; intro wc hk hg hz; have K3 := Lib.hid hk; have G3 := Lib.hid hg; clear hk hg hz; have J3 := Lib.hid (J.out.below ((Below.refl _ _).grown G3.out (Nat.le_refl _) (by simp))))
            | ((with_reducible show wpList _ _ _ (_ :: _) _ _); refine wpl_app_it rfl (.tmp 57) (.tmp 60) rfl w.heap.size u3 l2 rfl J3.out.out _ (snI id) rfl K3.out (by omega) J3.out.low.size ?_; intro v' wd ho hg; have J4 := Lib.hid (J3.out.app hg ho HL.out); clear ho hg))
          go_roundg (gk - 1)
          case measure => omega
          case rel => exact ⟨q + 1, l2 ++ [snI id], rfl, by omega, by omega, by omega, by rw [HTk.out, ← List.append_assoc, HL2.out], by rw [List.length_append]; have := HLn2.out; simp; omega, J4.out⟩
        · have hqI : ¬ (q : Int) < (M.length : Int) := by omega
          go_wp2_with fail
          go_ret
          have e : l2 = mItems n f M := by
            rw [HL2.out]
            unfold mItems
            rw [List.take_of_length_le (by rw [HIl.out]; omega)]
          rw [← e]
          exact ⟨_, rfl, J.out.out, J.out.low⟩
end Go.Proofs.YtpadifphnbdbpaaGreat
