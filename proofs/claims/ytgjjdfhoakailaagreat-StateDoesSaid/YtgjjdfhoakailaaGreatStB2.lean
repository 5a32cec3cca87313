/-
  keys in order; slices.SortFunc at a row of the call's own, whatever it holds; the two closures that compare keys.
-/
import Derived.Test.YtgjjdfhoakailaaGreatStB
import Derived.Shelf.SlSortCmp.NoneTotal
namespace Go.Proofs.YtgjjdfhoakailaaGreat
open Go.RowKit Go.Maps Go.Sort Go.Shelf Go.Lib
set_option linter.unusedVariables false
set_option linter.unusedSimpArgs false

theorem cb_cons (a b : UInt8) (r t : List UInt8) : compareBytes (a :: r) (b :: t) = if a.toNat < b.toNat then -1 else if b.toNat < a.toNat then 1 else compareBytes r t := by
  rw [compareBytes]
  simp only [UInt8.lt_iff_toNat_lt]
theorem cb_self : ∀ a : List UInt8, compareBytes a a = 0
  | [] => rfl
  | x :: l => by rw [cb_cons, if_neg (by omega), if_neg (by omega), cb_self l]
theorem cb_trans : ∀ a b c : List UInt8, compareBytes a b < 0 → compareBytes b c < 0 → compareBytes a c < 0
  | [], [], _, h, _ => by simp [compareBytes] at h
  | _ :: _, [], _, h, _ => by simp [compareBytes] at h
  | [], _ :: _, [], _, h => by simp [compareBytes] at h
  | _ :: _, _ :: _, [], _, h => by simp [compareBytes] at h
  | [], _ :: _, _ :: _, _, _ => by simp [compareBytes]
  | x :: a, y :: b, z :: c, h1, h2 => by
    rw [cb_cons] at h1 h2 ⊢
    split at h1
    · split at h2
      · rw [if_pos (by omega)]; decide
      · split at h2
        · omega
        · rw [if_pos (by omega)]; decide
    · split at h1
      · omega
      · split at h2
        · rw [if_pos (by omega)]; decide
        · split at h2
          · omega
          · rw [if_neg (by omega), if_neg (by omega)]
            exact cb_trans a b c h1 h2
theorem cb_ntrans : ∀ a b c : List UInt8, 0 ≤ compareBytes a b → 0 ≤ compareBytes b c → 0 ≤ compareBytes a c
  | [], [], [], _, _ => by simp [compareBytes]
  | [], [], _ :: _, _, h => by simp [compareBytes] at h
  | [], _ :: _, _, h, _ => by simp [compareBytes] at h
  | _ :: _, [], [], _, _ => by simp [compareBytes]
  | _ :: _, [], _ :: _, _, h => by simp [compareBytes] at h
  | _ :: _, _ :: _, [], _, _ => by simp [compareBytes]
  | x :: a, y :: b, z :: c, h1, h2 => by
    rw [cb_cons] at h1 h2 ⊢
    split at h1
    · omega
    · split at h2
      · omega
      · rw [if_neg (by omega)]
        split at h1
        · rw [if_pos (by split at h2 <;> omega)]; decide
        · split at h2
          · rw [if_pos (by omega)]; decide
          · rw [if_neg (by omega)]
            exact cb_ntrans a b c h1 h2
theorem cb_zero : ∀ a b : List UInt8, 0 ≤ compareBytes a b → 0 ≤ compareBytes b a → a = b
  | [], [], _, _ => rfl
  | [], _ :: _, h, _ => by simp [compareBytes] at h
  | _ :: _, [], _, h => by simp [compareBytes] at h
  | x :: a, y :: b, h1, h2 => by
    rw [cb_cons] at h1 h2
    by_cases a1 : x.toNat < y.toNat
    · rw [if_pos a1] at h1
      omega
    · by_cases a2 : y.toNat < x.toNat
      · rw [if_pos a2] at h2
        omega
      · rw [if_neg a1, if_neg a2] at h1
        rw [if_neg a2, if_neg a1] at h2
        have e : x = y := UInt8.toNat_inj.1 (by omega)
        rw [e, cb_zero a b h1 h2]
/-- Two keys, compared byte by byte. -/
def cmpK (K L : Key) : Int := compareBytes (bytesOf K.1) (bytesOf L.1)
theorem cmpK_self (K : Key) : cmpK K K = 0 := cb_self _
theorem bytesOf_inj {K L : Key} (h : bytesOf K.1 = bytesOf L.1) : K = L := by
  apply Subtype.ext
  have key : ∀ (xs ys : List Int), (∀ z ∈ xs, 0 ≤ z ∧ z < 256) → (∀ z ∈ ys, 0 ≤ z ∧ z < 256) → bytesOf xs = bytesOf ys → xs = ys := by
    intro xs
    induction xs with
    | nil => intro ys _ _ h; cases ys with
      | nil => rfl
      | cons _ _ => simp [bytesOf] at h
    | cons x xs ih => intro ys hx hy h; cases ys with
      | nil => simp [bytesOf] at h
      | cons y ys =>
        simp only [bytesOf, List.map_cons, List.cons.injEq] at h
        have e := congrArg UInt8.toNat h.1
        simp only [UInt8.toNat_ofNat'] at e
        have h1 := hx x (by simp)
        have h2 := hy y (by simp)
        rw [show x = y by omega, ih ys (fun z hz => hx z (by simp [hz])) (fun z hz => hy z (by simp [hz])) h.2]
  exact key _ _ K.2.2 L.2.2 h
theorem cmpK_zero {K L : Key} (h1 : 0 ≤ cmpK K L) (h2 : 0 ≤ cmpK L K) : K = L := bytesOf_inj (cb_zero _ _ h1 h2)
theorem ltOf_key {α : Type} (f : α → Key) (x y : α) : ltOf (fun x y : α => cmpK (f x) (f y)) x y = decide (cmpK (f x) (f y) < 0) := rfl
theorem swo_key {α : Type} (f : α → Key) : SWO (ltOf fun x y : α => cmpK (f x) (f y)) where
  irrefl x := by rw [ltOf_key, cmpK_self]; rfl
  trans x y z h1 h2 := by
    rw [ltOf_key] at *
    exact decide_eq_true (cb_trans _ _ _ (of_decide_eq_true h1) (of_decide_eq_true h2))
  ntrans x y z h1 h2 := by
    rw [ltOf_key] at *
    have h1 := of_decide_eq_false h1
    have h2 := of_decide_eq_false h2
    have := cb_ntrans (bytesOf (f x).1) (bytesOf (f y).1) (bytesOf (f z).1) (by unfold cmpK at h1; omega) (by unfold cmpK at h2; omega)
    exact decide_eq_false (by unfold cmpK; omega)
def SrtPost {α : Type} (enc : α → List Value) (k base n : Nat) (e : TypeId) (cf : α → α → Int) (v : Value) (l : List α) (w : World) (en : Ending) (w' : World) : Prop :=
  en = .returned (.tuple #[]) ∧ ∃ l' : List α, l'.Perm l ∧ l'.Pairwise (fun x y => ltOf cf y x = false) ∧ w'.ownsRow base e k v n (l'.flatMap enc) ∧ w.grownBy w' v.ownBlock
theorem sortFunc_own {P : Program} {ρ : Ren} {α : Type} [Inhabited α] (L : SlLaysF0.n6 P ρ) (k : Nat) (aE : ∀ w, (isAgg (ρ.t 24)).run P w = .ok true w) (zE : ∀ w, (Go.sizeOf (ρ.t 24)).run P w = .ok k w) (enc : α → List Value) (hk : ∀ x, (enc x).length = k) (h1 : ∀ x, ∀ v ∈ enc x, v.oneCell' = true) (cf : α → α → Int) (hO : SWO (ltOf cf)) (g : Nat)
    (eg : ∀ args w, (callFunc g args).run P w = .ok (.enter g args) w) (hcmp : ∀ (x y : α) (W : World), Calls P g #[.agg (enc x).toArray, .agg (enc y).toArray] W fun e w' => e = .returned (.int .i64 (cf x y)) ∧ ∃ q os', w' = grow (W.drewN q) os')
    (base : Nat) (e : TypeId) (v : Value) (l : List α) (w : World) (hown : w.ownsRow base e k v l.length (l.flatMap enc)) (hsz : l.length ≤ 1000000000) :
    Calls P (ρ.f 6) #[v, .func (.func g) #[] #[]] w (SrtPost enc k base l.length e cf v l w) := by
  rcases hown.2 with ⟨rfl, h0⟩ | ⟨g', cap, cur, rfl, hb, hg, hn, hc, hcs, ht⟩
  · have hl : l = [] := List.eq_nil_of_length_eq_zero h0
    subst hl
    refine (AnyF.slices_SortFunc_none L none 0 (.func (.func g) #[] #[]) w).mono ?_
    rintro en w' ⟨rfl, rfl⟩
    exact ⟨rfl, [], List.Perm.refl _, List.Pairwise.nil, hown, World.grownBy.refl _ _⟩
  · have hlt : g' < w.heap.size := (Array.getElem?_eq_some_iff.1 hg).1
    have hcon := AnyQ.slices_SortFunc L k aE zE enc hk h1 cf hO g #[] g' 0 cap l.toArray w eg (fun m os dk hdk x y => hcmp x y _) (sort_holds hk l hg ht) hlt (by simp; omega)
    rw [List.size_toArray] at hcon
    refine hcon.mono ?_
    rintro en w' ⟨rfl, d', n, os, hp, hs, rfl⟩
    have hpe : d'.toList.Perm l := by
      have := permIn_all (d := l.toArray) (d' := d') (by simpa using hp)
      simpa using this
    have hse : d'.toList.Pairwise (fun x y => ltOf cf y x = false) := by
      refine sortedIn_all (d := d') ?_
      have : d'.size = l.length := by have := hpe.length_eq; simpa using this
      rw [this]
      exact hs
    have := sort_own (m := n) (os := os) hk l d'.toList hpe.length_eq hown rfl
    rw [Array.toArray_toList] at this
    exact ⟨rfl, d'.toList, hpe, hse, this.1, this.2⟩
instance : Inhabited It := ⟨⟨0, zKey, zPl, 0, 0, zSl⟩⟩
instance : Inhabited Cn := ⟨⟨zKey, 0⟩⟩
/-! ### The closures -/
theorem Blk.rdKey {w : World} {g off : Nat} {t : TypeId} {cs : List Value} {K : Key} (h : Blk w g t cs.toArray) (hv : (cs.drop off).take 32 = keyL K) : RdI .u8 w (some ⟨g, off, none⟩) 32 K.1 := by
  refine ⟨K.2.1, fun _ => ⟨g, off, rfl, h.lt, fun j hj => ?_⟩⟩
  have := h.part off (keyL K) (by rw [keyL_len]; exact hv) j (.int .u8 (K.1.getD j 0)) (by
    unfold keyL
    rw [List.getElem?_map, List.getD_eq_getElem?_getD, List.getElem?_eq_getElem (by rw [K.2.1]; exact hj)]
    rfl)
  exact this
theorem slice_key (b off : Nat) (W : World) : (Instr.sliceAt 50 (.pointer (some ⟨b, off, none⟩)) none none none).run Tryz.prog W = .ok (.slice (some ⟨b, off, none⟩) 32 32) W := by
  have hu : Tryz.prog.underlying 50 = some (.array (Tryz.prog.arrayLen 50) (Tryz.prog.elem 50)) := by kernel_rfl
  have hl : Tryz.prog.arrayLen 50 = 32 := by kernel_rfl
  have he : Tryz.prog.elem 50 = 5 := by kernel_rfl
  rw [run_sliceAt_array_all W _ _ hu, hl, he, Tryz.sizeOf5]
  simp only [Result.andThen_ok, slicedAt]
  simp [Addr.add_mid]
set_option maxRecDepth 100000 in
theorem cmpIt (x y : It) (W : World) : Calls Tryz.prog 67 #[.agg (itC x).toArray, .agg (itC y).toArray] W fun e w' => e = .returned (.int .i64 (cmpK x.key y.key)) ∧ ∃ q os', w' = grow (W.drewN q) os' := by
  have HC := Lib.hid (show ((itC x).drop 1).take 32 = keyL x.key ∧ ((itC y).drop 1).take 32 = keyL y.key by
    constructor <;> (unfold itC; rw [List.drop_succ_cons, List.drop_zero, List.take_left' (keyL_len _)]))
  obtain ⟨r, hr⟩ : ∃ r, r = cmpK x.key y.key := ⟨_, rfl⟩
  rw [← hr]
  have HR := Lib.hid (show r = compareBytes (bytesOf x.key.1) (bytesOf y.key.1) from hr)
  clear hr
  go_enter Tryz.func67, Tryz.ntmps67
  go_wp2_with fail
  obtain ⟨wa, hwa⟩ : ∃ wa, wa = ((W.alloc (Obj.cells (itC x).toArray 56)).alloc (Obj.cells (itC y).toArray 56)).drew := ⟨_, rfl⟩
  have K1 := Lib.hid (show Blk wa W.heap.size 56 (itC x).toArray by rw [hwa]; exact ((Blk.made _ _ _).alloc _).drew)
  have K2 := Lib.hid (show Blk wa (W.heap.size + 1) 56 (itC y).toArray by rw [hwa]; exact (Blk.made_at _ _ _ (by simp)).drew)
  have HW := Lib.hid hwa
  refine wp_region_qs (fun _ _ => True) [(0, some 1), (1, some 0), (2, some 1), (3, some 0), (4, none), (5, some 1)] (by kernel_rfl) (by kernel_rfl) (by kernel_rfl) (by kernel_rfl) (by kernel_rfl) (fun _ _ _ _ _ h => h) trivial ?_
  rw [← hwa]
  clear hwa
  simp only [List.map_cons, List.map_nil, List.getD_cons_succ, List.getD_cons_zero]
  (repeat (first | ((first | (refine qs_run (v := .slice (some ⟨W.heap.size, 1, none⟩) 32 32) (by rfl) ?_ ?_; rotate_left 1; (· (intro j w' hS; unfold execOp; simp only [Option.map_none]; show Sem.run _ ((Instr.sliceAt 50 (.pointer (some ⟨W.heap.size, 1, none⟩)) none none none) >>= fun v => pure (Next.value v)) w' = _; rw [Sem.run_bind, slice_key]; rfl))) | (refine qs_run (v := .slice (some ⟨W.heap.size + 1, 1, none⟩) 32 32) (by rfl) ?_ ?_; rotate_left 1; (· (intro j w' hS; unfold execOp; simp only [Option.map_none]; show Sem.run _ ((Instr.sliceAt 50 (.pointer (some ⟨W.heap.size + 1, 1, none⟩)) none none none) >>= fun v => pure (Next.value v)) w' = _; rw [Sem.run_bind, slice_key]; rfl)))); simp only [Act.put, List.setIfInBounds_toArray, List.set_cons_zero, List.set_cons_succ]) | (refine qs_now (v := ?_) (by rfl) ?_ ?_; rotate_left 1; (· (intro w' hS; go_simp; (try (simp only [↓IntWalk.iteOmega]; go_simp)); (try simp (disch := omega) only [IntWalk.i64_in]); try with_reducible rfl)); simp only [Act.put, List.setIfInBounds_toArray, List.set_cons_zero, List.set_cons_succ]) | (refine qs_run (v := ?_) (by rfl) ?_ ?_; rotate_left 1; (· (intro j w' hS; go_simp; (try (simp only [↓IntWalk.iteOmega]; go_simp)); (try simp (disch := omega) only [IntWalk.i64_in]); try with_reducible rfl)); simp only [Act.put, List.setIfInBounds_toArray, List.set_cons_zero, List.set_cons_succ]) | (refine qs_skip (by rfl) ?_; simp only [Act.put, List.setIfInBounds_toArray, List.set_cons_zero, List.set_cons_succ])))
  refine qs_act ?_
  go_wp2_with fail
  refine (bcompare_any wa W.heap.size 1 32 32 (W.heap.size + 1) 1 32 32 x.key.1 y.key.1 (K1.out.rdKey HC.out.1) (K2.out.rdKey HC.out.2)).mono ?_
  rintro e w' ⟨rfl, rfl⟩
  rw [← HR.out]
  go_wp2
  refine ⟨trivial, ?_⟩
  (repeat (first | (refine qs_now (v := ?_) (by rfl) ?_ ?_; rotate_left 1; (· (intro w' hS; go_simp; (try (simp only [↓IntWalk.iteOmega]; go_simp)); (try simp (disch := omega) only [IntWalk.i64_in]); try with_reducible rfl)); simp only [Act.put, List.setIfInBounds_toArray, List.set_cons_zero, List.set_cons_succ]) | (refine qs_run (v := ?_) (by rfl) ?_ ?_; rotate_left 1; (· (intro j w' hS; go_simp; (try (simp only [↓IntWalk.iteOmega]; go_simp)); (try simp (disch := omega) only [IntWalk.i64_in]); try with_reducible rfl)); simp only [Act.put, List.setIfInBounds_toArray, List.set_cons_zero, List.set_cons_succ]) | (refine qs_skip (by rfl) ?_; simp only [Act.put, List.setIfInBounds_toArray, List.set_cons_zero, List.set_cons_succ])))
  refine qs_nil ?_
  go_wp2_with fail
  go_ret
  refine ⟨rfl, 1, #[Obj.cells (itC x).toArray 56, Obj.cells (itC y).toArray 56], ?_⟩
  rw [HW.out, alloc_eq_grow, alloc_eq_grow, grow_grow]
  rfl
set_option maxRecDepth 100000 in
theorem cmpCn (x y : Cn) (W : World) : Calls Tryz.prog 116 #[.agg (cnC x).toArray, .agg (cnC y).toArray] W fun e w' => e = .returned (.int .i64 (cmpK x.key y.key)) ∧ ∃ q os', w' = grow (W.drewN q) os' := by
  have HC := Lib.hid (show ((cnC x).drop 0).take 32 = keyL x.key ∧ ((cnC y).drop 0).take 32 = keyL y.key by
    constructor <;> (unfold cnC; rw [List.drop_zero, List.take_left' (keyL_len _)]))
  obtain ⟨r, hr⟩ : ∃ r, r = cmpK x.key y.key := ⟨_, rfl⟩
  rw [← hr]
  have HR := Lib.hid (show r = compareBytes (bytesOf x.key.1) (bytesOf y.key.1) from hr)
  clear hr
  go_enter Tryz.func116, Tryz.ntmps116
  go_wp2_with fail
  obtain ⟨wa, hwa⟩ : ∃ wa, wa = ((W.alloc (Obj.cells (cnC x).toArray 89)).alloc (Obj.cells (cnC y).toArray 89)).drew := ⟨_, rfl⟩
  have K1 := Lib.hid (show Blk wa W.heap.size 89 (cnC x).toArray by rw [hwa]; exact ((Blk.made _ _ _).alloc _).drew)
  have K2 := Lib.hid (show Blk wa (W.heap.size + 1) 89 (cnC y).toArray by rw [hwa]; exact (Blk.made_at _ _ _ (by simp)).drew)
  have HW := Lib.hid hwa
  refine wp_region_qs (fun _ _ => True) [(0, some 1), (1, some 0), (2, some 1), (3, some 0), (4, none), (5, some 1)] (by kernel_rfl) (by kernel_rfl) (by kernel_rfl) (by kernel_rfl) (by kernel_rfl) (fun _ _ _ _ _ h => h) trivial ?_
  rw [← hwa]
  clear hwa
  simp only [List.map_cons, List.map_nil, List.getD_cons_succ, List.getD_cons_zero]
  (repeat (first | ((first | (refine qs_run (v := .slice (some ⟨W.heap.size, 0, none⟩) 32 32) (by rfl) ?_ ?_; rotate_left 1; (· (intro j w' hS; unfold execOp; simp only [Option.map_none]; show Sem.run _ ((Instr.sliceAt 50 (.pointer (some ⟨W.heap.size, 0, none⟩)) none none none) >>= fun v => pure (Next.value v)) w' = _; rw [Sem.run_bind, slice_key]; rfl))) | (refine qs_run (v := .slice (some ⟨W.heap.size + 1, 0, none⟩) 32 32) (by rfl) ?_ ?_; rotate_left 1; (· (intro j w' hS; unfold execOp; simp only [Option.map_none]; show Sem.run _ ((Instr.sliceAt 50 (.pointer (some ⟨W.heap.size + 1, 0, none⟩)) none none none) >>= fun v => pure (Next.value v)) w' = _; rw [Sem.run_bind, slice_key]; rfl)))); simp only [Act.put, List.setIfInBounds_toArray, List.set_cons_zero, List.set_cons_succ]) | (refine qs_now (v := ?_) (by rfl) ?_ ?_; rotate_left 1; (· (intro w' hS; go_simp; (try (simp only [↓IntWalk.iteOmega]; go_simp)); (try simp (disch := omega) only [IntWalk.i64_in]); try with_reducible rfl)); simp only [Act.put, List.setIfInBounds_toArray, List.set_cons_zero, List.set_cons_succ]) | (refine qs_run (v := ?_) (by rfl) ?_ ?_; rotate_left 1; (· (intro j w' hS; go_simp; (try (simp only [↓IntWalk.iteOmega]; go_simp)); (try simp (disch := omega) only [IntWalk.i64_in]); try with_reducible rfl)); simp only [Act.put, List.setIfInBounds_toArray, List.set_cons_zero, List.set_cons_succ]) | (refine qs_skip (by rfl) ?_; simp only [Act.put, List.setIfInBounds_toArray, List.set_cons_zero, List.set_cons_succ])))
  refine qs_act ?_
  go_wp2_with fail
  refine (bcompare_any wa W.heap.size 0 32 32 (W.heap.size + 1) 0 32 32 x.key.1 y.key.1 (K1.out.rdKey HC.out.1) (K2.out.rdKey HC.out.2)).mono ?_
  rintro e w' ⟨rfl, rfl⟩
  rw [← HR.out]
  go_wp2
  refine ⟨trivial, ?_⟩
  (repeat (first | (refine qs_now (v := ?_) (by rfl) ?_ ?_; rotate_left 1; (· (intro w' hS; go_simp; (try (simp only [↓IntWalk.iteOmega]; go_simp)); (try simp (disch := omega) only [IntWalk.i64_in]); try with_reducible rfl)); simp only [Act.put, List.setIfInBounds_toArray, List.set_cons_zero, List.set_cons_succ]) | (refine qs_run (v := ?_) (by rfl) ?_ ?_; rotate_left 1; (· (intro j w' hS; go_simp; (try (simp only [↓IntWalk.iteOmega]; go_simp)); (try simp (disch := omega) only [IntWalk.i64_in]); try with_reducible rfl)); simp only [Act.put, List.setIfInBounds_toArray, List.set_cons_zero, List.set_cons_succ]) | (refine qs_skip (by rfl) ?_; simp only [Act.put, List.setIfInBounds_toArray, List.set_cons_zero, List.set_cons_succ])))
  refine qs_nil ?_
  go_wp2_with fail
  go_ret
  refine ⟨rfl, 1, #[Obj.cells (cnC x).toArray 89, Obj.cells (cnC y).toArray 89], ?_⟩
  rw [HW.out, alloc_eq_grow, alloc_eq_grow, grow_grow]
  rfl
end Go.Proofs.YtgjjdfhoakailaaGreat
