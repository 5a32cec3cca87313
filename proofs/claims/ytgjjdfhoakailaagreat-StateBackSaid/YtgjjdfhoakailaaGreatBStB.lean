/-
  what this claim needs of: StB, StB2 (written by cut.py).
-/
import Derived.Test.YtgjjdfhoakailaaGreatBStR
import Derived.Test.YtgjjdfhoakailaaGreatBStM
import Derived.Test.YtgjjdfhoakailaaGreatBLayg
import Derived.Lib.BytesEntry
import Derived.Shelf.SlSortCmp.NoneTotal
namespace Go.Proofs.YtgjjdfhoakailaaGreat
open Go.RowKit Go.Maps Go.Sort Go.Shelf
set_option linter.unusedVariables false
set_option linter.unusedSimpArgs false

theorem run_bytesOf {P : Program} (w : World) (b off n c : Nat) (xs : List Int) (h : RdI .u8 w (some ⟨b, off, none⟩) n xs) : (Extern.Bytes.bytesOf (.slice (some ⟨b, off, none⟩) n c)).run P w = .ok ⟨(Lib.bytesOf xs).toArray⟩ w := by
  have hl := Lib.run_loadBytesX (P := P) w xs ⟨b, off, none⟩ .empty (fun j x hj => by
    have hjl : j < xs.length := (List.getElem?_eq_some_iff.1 hj).1
    rw [Addr.add_mid]
    obtain ⟨b', off', e, _, hc⟩ := h.2 (by have := h.1; omega)
    injection e with e
    injection e with e1 e2
    subst e1 e2
    rw [hc j (by have := h.1; omega), List.getD_eq_getElem?_getD, hj]
    rfl)
  rw [h.1] at hl
  have he : (⟨ByteArray.empty.data ++ (Lib.bytesOf xs).toArray⟩ : ByteArray) = ⟨(Lib.bytesOf xs).toArray⟩ := by
    apply ByteArray.ext
    show (#[] : Array UInt8) ++ (Lib.bytesOf xs).toArray = (Lib.bytesOf xs).toArray
    simp
  rw [he] at hl
  exact hl
theorem run_compareSlices {P : Program} (w : World) (b1 o1 n1 c1 b2 o2 n2 c2 : Nat) (xs ys : List Int) (h1 : RdI .u8 w (some ⟨b1, o1, none⟩) n1 xs) (h2 : RdI .u8 w (some ⟨b2, o2, none⟩) n2 ys) :
    (Extern.BytealgCompare.compare #[.slice (some ⟨b1, o1, none⟩) n1 c1, .slice (some ⟨b2, o2, none⟩) n2 c2]).run P w = .ok (.int .i64 (Lib.compareBytes (Lib.bytesOf xs) (Lib.bytesOf ys))) w := by
  change Sem.run P (do pure (goInt (Extern.BytealgCompare.cmp (← Extern.Bytes.bytesOf (.slice (some ⟨b1, o1, none⟩) n1 c1)) (← Extern.Bytes.bytesOf (.slice (some ⟨b2, o2, none⟩) n2 c2))))) w = _
  simp only [Sem.run_bind, run_bytesOf w b1 o1 n1 c1 xs h1, run_bytesOf w b2 o2 n2 c2 ys h2, Sem.run_pure, Result.andThen]
  rw [Lib.cmp_eq]
  rfl
theorem bcompare_any (w : World) (b1 o1 n1 c1 b2 o2 n2 c2 : Nat) (xs ys : List Int) (h1 : RdI .u8 w (some ⟨b1, o1, none⟩) n1 xs) (h2 : RdI .u8 w (some ⟨b2, o2, none⟩) n2 ys) :
    Calls Tryz.prog 68 #[.slice (some ⟨b1, o1, none⟩) n1 c1, .slice (some ⟨b2, o2, none⟩) n2 c2] w fun e w' => e = .returned (.int .i64 (Lib.compareBytes (Lib.bytesOf xs) (Lib.bytesOf ys))) ∧ w = w' := by
  have hrun := run_compareSlices (P := Tryz.prog) w b1 o1 n1 c1 b2 o2 n2 c2 xs ys h1 h2
  have hx : (callFunc 105 #[.slice (some ⟨b1, o1, none⟩) n1 c1, .slice (some ⟨b2, o2, none⟩) n2 c2]).run Tryz.prog w = .ok (.value (.int .i64 (Lib.compareBytes (Lib.bytesOf xs) (Lib.bytesOf ys)))) w := by
    rw [run_callFunc_extern Tryz.func105 (by kernel_rfl) (by kernel_rfl) (by kernel_rfl) (e := Extern.BytealgCompare.compare) (by kernel_rfl), hrun]
    rfl
  clear h1 h2 hrun
  generalize Lib.compareBytes (Lib.bytesOf xs) (Lib.bytesOf ys) = r at *
  go_enter Tryz.func68, Tryz.ntmps68
  go_wp2
  go_ret
  exact ⟨rfl, rfl⟩
section
variable {α : Type} [Inhabited α] {enc : α → List Value} {k : Nat}
theorem flatK_list (hk : ∀ x, (enc x).length = k) (l : List α) : (flatK enc k l.toArray) = (l.flatMap enc).toArray := by
  rcases Nat.eq_zero_or_pos k with rfl | hpos
  · have h0 : l.flatMap enc = [] := by
      rw [List.flatMap_eq_nil_iff]
      intro x _
      exact List.length_eq_zero_iff.1 (hk x)
    rw [h0]
    apply Array.eq_empty_of_size_eq_zero
    simp
  · have hlen : (l.flatMap enc).length = l.length * k := by
      induction l with
      | nil => simp
      | cons x l ih => rw [List.flatMap_cons, List.length_append, hk, ih, List.length_cons, Nat.succ_mul]; omega
    refine ext_get! (by simp [hlen]) (fun t ht => ?_)
    have ht' : t < l.length * k := by simpa using ht
    rw [get_flatK _ _ _ _ (by simpa using ht')]
    have hq : t / k < l.length := (Nat.div_lt_iff_lt_mul hpos).2 ht'
    have hr : t % k < k := Nat.mod_lt _ hpos
    have e1 : (l.toArray)[t / k]! = l[t / k] := by simp [hq]
    have key : ∀ (l : List α) (q r : Nat) (hq : q < l.length), r < k → (l.flatMap enc)[q * k + r]? = (enc (l[q]'hq))[r]? := by
      intro l
      induction l with
      | nil => intro q r hq; simp at hq
      | cons x l ih =>
        intro q r hq hr
        rw [List.flatMap_cons]
        rcases q with _ | q
        · rw [Nat.zero_mul, Nat.zero_add, List.getElem?_append_left (by rw [hk]; exact hr)]; rfl
        · rw [List.getElem?_append_right (by rw [hk, Nat.succ_mul]; omega), hk]
          have := ih q r (by simpa using hq) hr
          rw [show (q + 1) * k + r - k = q * k + r by rw [Nat.succ_mul]; omega, this]
          rfl
    rw [e1]
    have h := key l (t / k) (t % k) hq hr
    rw [show t / k * k + t % k = t by rw [Nat.mul_comm]; exact Nat.div_add_mod t k] at h
    have hlt : t < (l.flatMap enc).length := by rw [hlen]; exact ht'
    have hlt2 : t % k < (enc l[t / k]).length := by rw [hk]; exact hr
    rw [List.getElem?_eq_getElem hlt, List.getElem?_eq_getElem hlt2] at h
    injection h with h
    rw [getElem!_pos (enc l[t / k]) (t % k) hlt2, getElem!_pos (l.flatMap enc).toArray t (by rw [List.size_toArray]; exact hlt)]
    rw [List.getElem_toArray]
    exact h.symm
theorem sort_holds {w : World} {g : Nat} {cur : Array Value} {e : TypeId} (hk : ∀ x, (enc x).length = k) (l : List α) (hb : w.heap[g]? = some (.cells cur e (0, 0))) (ht : cur.toList.take (l.length * k) = l.flatMap enc) : HoldsK enc k w g 0 l.toArray := by
  unfold HoldsK
  rw [flatK_list hk]
  intro j hj
  have hj' : j < (l.flatMap enc).length := by simpa using hj
  refine ⟨?_, by simp [World.frozen?, hb]⟩
  have hlen : (cur.toList.take (l.length * k)).length ≤ l.length * k := by rw [List.length_take]; omega
  have h1 : (cur.toList.take (l.length * k))[j]? = (l.flatMap enc)[j]? := by rw [ht]
  rw [ht] at hlen
  rw [List.getElem?_take_of_lt (by omega)] at h1
  simp only [World.cell?, hb, Nat.zero_add]
  simp only [Option.isSome_none, Bool.false_eq_true, if_false]
  rw [← Array.getElem?_toList, h1, List.getElem?_eq_getElem hj', getElem!_pos (l.flatMap enc).toArray j hj, List.getElem_toArray]
  rfl
theorem sort_own {w : World} {base g cap n m : Nat} {e : TypeId} {os : Array Obj} (hk : ∀ x, (enc x).length = k) (l l' : List α) (hl : l'.length = l.length) (h : w.ownsRow base e k (.slice (some ⟨g, 0, none⟩) n cap) n (l.flatMap enc)) (hn : n = l.length) :
    (sortWorldK enc k w g 0 m l'.toArray os).ownsRow base e k (.slice (some ⟨g, 0, none⟩) n cap) n (l'.flatMap enc) ∧ w.grownBy (sortWorldK enc k w g 0 m l'.toArray os) (some g) := by
  subst hn
  have hlen : (l'.flatMap enc).length = l.length * k := by
    rw [← hl]
    clear hl h
    induction l' with
    | nil => simp
    | cons x l ih => rw [List.flatMap_cons, List.length_append, hk, ih, List.length_cons, Nat.succ_mul]; omega
  unfold sortWorldK putRowK
  rw [flatK_list hk]
  rcases h.2 with ⟨h0, _⟩ | ⟨g', cap', cur, hv, hb, hg, h1, h2, h3, h4⟩
  · cases h0
  · injection hv with a1 a2 a3
    injection a1 with a1
    injection a1 with a1
    subst a1 a3
    have hgl : g < w.heap.size := (Array.getElem?_eq_some_iff.1 hg).1
    refine ⟨⟨hlen, .inr ⟨g, cap, putCells id 0 (l'.flatMap enc).toArray cur, rfl, hb, ?_, h1, h2, by simp [putCells, h3], ?_⟩⟩, ⟨rfl, rfl, rfl, by simp, fun i hi hne => ?_⟩⟩
    · rw [heap_grow_old _ _ (by simpa using hgl)]
      simp [putRow, mapBlock, Sort.ahead, Array.getElem?_modify, hg, onCells]
    · have hcs : (l'.flatMap enc).length ≤ cur.size := by rw [hlen, h3]; exact Nat.mul_le_mul_right _ h1
      rw [← hlen]
      apply List.ext_getElem?
      intro j
      by_cases hj : j < (l'.flatMap enc).length
      · generalize l'.flatMap enc = L at *
        rw [List.getElem?_take_of_lt hj, Array.getElem?_toList]
        simp [putCells, hj, show j < cur.size by omega]
      · rw [List.getElem?_take_eq_none (by omega), List.getElem?_eq_none (by omega)]
    · rw [heap_grow_old _ _ (by simpa using hi)]
      have : g ≠ i := fun e => hne (by rw [e])
      simp [putRow, mapBlock, Sort.ahead, Array.getElem?_modify, this]
theorem permIn_all {d d' : Array α} (h : PermIn 0 d.size d d') : d'.toList.Perm d.toList := by
  obtain ⟨h1, _, h3⟩ := h
  have e1 : d'.extract 0 d.size = d' := by rw [← h1]; simp
  have e2 : d.extract 0 d.size = d := by simp
  rwa [e1, e2] at h3
theorem sortedIn_all {lt : α → α → Bool} {d : Array α} (h : SortedIn lt 0 d.size d) : d.toList.Pairwise (fun x y => lt y x = false) := by
  rw [List.pairwise_iff_getElem]
  intro i j hi hj hij
  have := h i j (Nat.zero_le _) hij (by simpa using hj)
  simp at hi hj
  rw [getElem!_pos d j hj, getElem!_pos d i hi] at this
  simpa using this
end
end Go.Proofs.YtgjjdfhoakailaaGreat
namespace Go.Proofs.YtgjjdfhoakailaaGreat
open Go.RowKit Go.Maps Go.Sort Go.Shelf Go.Lib
set_option linter.unusedVariables false
set_option linter.unusedSimpArgs false

theorem cb_cons (a b : UInt8) (r t : List UInt8) : compareBytes (a :: r) (b :: t) = if a.toNat < b.toNat then -1 else if b.toNat < a.toNat then 1 else compareBytes r t := by
  rw [compareBytes]
  simp only [UInt8.lt_iff_toNat_lt]
theorem cb_self : ∀ a : List UInt8, compareBytes a a = 0
  | [] => rfl
  | x :: l => by rw [cb_cons, if_neg (by omega), if_neg (by omega), cb_self l]
theorem cb_trans : ∀ a b c : List UInt8, compareBytes a b < 0 → compareBytes b c < 0 → compareBytes a c < 0
  | [], [], _, h, _ => by simp [compareBytes] at h
  | _ :: _, [], _, h, _ => by simp [compareBytes] at h
  | [], _ :: _, [], _, h => by simp [compareBytes] at h
  | _ :: _, _ :: _, [], _, h => by simp [compareBytes] at h
  | [], _ :: _, _ :: _, _, _ => by simp [compareBytes]
  | x :: a, y :: b, z :: c, h1, h2 => by
    rw [cb_cons] at h1 h2 ⊢
    split at h1
    · split at h2
      · rw [if_pos (by omega)]; decide
      · split at h2
        · omega
        · rw [if_pos (by omega)]; decide
    · split at h1
      · omega
      · split at h2
        · rw [if_pos (by omega)]; decide
        · split at h2
          · omega
          · rw [if_neg (by omega), if_neg (by omega)]
            exact cb_trans a b c h1 h2
theorem cb_ntrans : ∀ a b c : List UInt8, 0 ≤ compareBytes a b → 0 ≤ compareBytes b c → 0 ≤ compareBytes a c
  | [], [], [], _, _ => by simp [compareBytes]
  | [], [], _ :: _, _, h => by simp [compareBytes] at h
  | [], _ :: _, _, h, _ => by simp [compareBytes] at h
  | _ :: _, [], [], _, _ => by simp [compareBytes]
  | _ :: _, [], _ :: _, _, h => by simp [compareBytes] at h
  | _ :: _, _ :: _, [], _, _ => by simp [compareBytes]
  | x :: a, y :: b, z :: c, h1, h2 => by
    rw [cb_cons] at h1 h2 ⊢
    split at h1
    · omega
    · split at h2
      · omega
      · rw [if_neg (by omega)]
        split at h1
        · rw [if_pos (by split at h2 <;> omega)]; decide
        · split at h2
          · rw [if_pos (by omega)]; decide
          · rw [if_neg (by omega)]
            exact cb_ntrans a b c h1 h2
theorem cb_zero : ∀ a b : List UInt8, 0 ≤ compareBytes a b → 0 ≤ compareBytes b a → a = b
  | [], [], _, _ => rfl
  | [], _ :: _, h, _ => by simp [compareBytes] at h
  | _ :: _, [], _, h => by simp [compareBytes] at h
  | x :: a, y :: b, h1, h2 => by
    rw [cb_cons] at h1 h2
    by_cases a1 : x.toNat < y.toNat
    · rw [if_pos a1] at h1
      omega
    · by_cases a2 : y.toNat < x.toNat
      · rw [if_pos a2] at h2
        omega
      · rw [if_neg a1, if_neg a2] at h1
        rw [if_neg a2, if_neg a1] at h2
        have e : x = y := UInt8.toNat_inj.1 (by omega)
        rw [e, cb_zero a b h1 h2]
/-- Two keys, compared byte by byte. -/
def cmpK (K L : Key) : Int := compareBytes (bytesOf K.1) (bytesOf L.1)
theorem cmpK_self (K : Key) : cmpK K K = 0 := cb_self _
theorem bytesOf_inj {K L : Key} (h : bytesOf K.1 = bytesOf L.1) : K = L := by
  apply Subtype.ext
  have key : ∀ (xs ys : List Int), (∀ z ∈ xs, 0 ≤ z ∧ z < 256) → (∀ z ∈ ys, 0 ≤ z ∧ z < 256) → bytesOf xs = bytesOf ys → xs = ys := by
    intro xs
    induction xs with
    | nil => intro ys _ _ h; cases ys with
      | nil => rfl
      | cons _ _ => simp [bytesOf] at h
    | cons x xs ih => intro ys hx hy h; cases ys with
      | nil => simp [bytesOf] at h
      | cons y ys =>
        simp only [bytesOf, List.map_cons, List.cons.injEq] at h
        have e := congrArg UInt8.toNat h.1
        simp only [UInt8.toNat_ofNat'] at e
        have h1 := hx x (by simp)
        have h2 := hy y (by simp)
        rw [show x = y by omega, ih ys (fun z hz => hx z (by simp [hz])) (fun z hz => hy z (by simp [hz])) h.2]
  exact key _ _ K.2.2 L.2.2 h
theorem cmpK_zero {K L : Key} (h1 : 0 ≤ cmpK K L) (h2 : 0 ≤ cmpK L K) : K = L := bytesOf_inj (cb_zero _ _ h1 h2)
theorem ltOf_key {α : Type} (f : α → Key) (x y : α) : ltOf (fun x y : α => cmpK (f x) (f y)) x y = decide (cmpK (f x) (f y) < 0) := rfl
theorem swo_key {α : Type} (f : α → Key) : SWO (ltOf fun x y : α => cmpK (f x) (f y)) where
  irrefl x := by rw [ltOf_key, cmpK_self]; rfl
  trans x y z h1 h2 := by
    rw [ltOf_key] at *
    exact decide_eq_true (cb_trans _ _ _ (of_decide_eq_true h1) (of_decide_eq_true h2))
  ntrans x y z h1 h2 := by
    rw [ltOf_key] at *
    have h1 := of_decide_eq_false h1
    have h2 := of_decide_eq_false h2
    have := cb_ntrans (bytesOf (f x).1) (bytesOf (f y).1) (bytesOf (f z).1) (by unfold cmpK at h1; omega) (by unfold cmpK at h2; omega)
    exact decide_eq_false (by unfold cmpK; omega)
def SrtPost {α : Type} (enc : α → List Value) (k base n : Nat) (e : TypeId) (cf : α → α → Int) (v : Value) (l : List α) (w : World) (en : Ending) (w' : World) : Prop :=
  en = .returned (.tuple #[]) ∧ ∃ l' : List α, l'.Perm l ∧ l'.Pairwise (fun x y => ltOf cf y x = false) ∧ w'.ownsRow base e k v n (l'.flatMap enc) ∧ w.grownBy w' v.ownBlock
theorem sortFunc_own {P : Program} {ρ : Ren} {α : Type} [Inhabited α] (L : SlLaysF0.n6 P ρ) (k : Nat) (aE : ∀ w, (isAgg (ρ.t 24)).run P w = .ok true w) (zE : ∀ w, (Go.sizeOf (ρ.t 24)).run P w = .ok k w) (enc : α → List Value) (hk : ∀ x, (enc x).length = k) (h1 : ∀ x, ∀ v ∈ enc x, v.oneCell' = true) (cf : α → α → Int) (hO : SWO (ltOf cf)) (g : Nat)
    (eg : ∀ args w, (callFunc g args).run P w = .ok (.enter g args) w) (hcmp : ∀ (x y : α) (W : World), Calls P g #[.agg (enc x).toArray, .agg (enc y).toArray] W fun e w' => e = .returned (.int .i64 (cf x y)) ∧ ∃ q os', w' = grow (W.drewN q) os')
    (base : Nat) (e : TypeId) (v : Value) (l : List α) (w : World) (hown : w.ownsRow base e k v l.length (l.flatMap enc)) (hsz : l.length ≤ 1000000000) :
    Calls P (ρ.f 6) #[v, .func (.func g) #[] #[]] w (SrtPost enc k base l.length e cf v l w) := by
  rcases hown.2 with ⟨rfl, h0⟩ | ⟨g', cap, cur, rfl, hb, hg, hn, hc, hcs, ht⟩
  · have hl : l = [] := List.eq_nil_of_length_eq_zero h0
    subst hl
    refine (AnyF.slices_SortFunc_none L none 0 (.func (.func g) #[] #[]) w).mono ?_
    rintro en w' ⟨rfl, rfl⟩
    exact ⟨rfl, [], List.Perm.refl _, List.Pairwise.nil, hown, World.grownBy.refl _ _⟩
  · have hlt : g' < w.heap.size := (Array.getElem?_eq_some_iff.1 hg).1
    have hcon := AnyQ.slices_SortFunc L k aE zE enc hk h1 cf hO g #[] g' 0 cap l.toArray w eg (fun m os dk hdk x y => hcmp x y _) (sort_holds hk l hg ht) hlt (by simp; omega)
    rw [List.size_toArray] at hcon
    refine hcon.mono ?_
    rintro en w' ⟨rfl, d', n, os, hp, hs, rfl⟩
    have hpe : d'.toList.Perm l := by
      have := permIn_all (d := l.toArray) (d' := d') (by simpa using hp)
      simpa using this
    have hse : d'.toList.Pairwise (fun x y => ltOf cf y x = false) := by
      refine sortedIn_all (d := d') ?_
      have : d'.size = l.length := by have := hpe.length_eq; simpa using this
      rw [this]
      exact hs
    have := sort_own (m := n) (os := os) hk l d'.toList hpe.length_eq hown rfl
    rw [Array.toArray_toList] at this
    exact ⟨rfl, d'.toList, hpe, hse, this.1, this.2⟩
instance : Inhabited It := ⟨⟨0, zKey, zPl, 0, 0, zSl⟩⟩
instance : Inhabited Cn := ⟨⟨zKey, 0⟩⟩
theorem Blk.rdKey {w : World} {g off : Nat} {t : TypeId} {cs : List Value} {K : Key} (h : Blk w g t cs.toArray) (hv : (cs.drop off).take 32 = keyL K) : RdI .u8 w (some ⟨g, off, none⟩) 32 K.1 := by
  refine ⟨K.2.1, fun _ => ⟨g, off, rfl, h.lt, fun j hj => ?_⟩⟩
  have := h.part off (keyL K) (by rw [keyL_len]; exact hv) j (.int .u8 (K.1.getD j 0)) (by
    unfold keyL
    rw [List.getElem?_map, List.getD_eq_getElem?_getD, List.getElem?_eq_getElem (by rw [K.2.1]; exact hj)]
    rfl)
  exact this
theorem slice_key (b off : Nat) (W : World) : (Instr.sliceAt 50 (.pointer (some ⟨b, off, none⟩)) none none none).run Tryz.prog W = .ok (.slice (some ⟨b, off, none⟩) 32 32) W := by
  have hu : Tryz.prog.underlying 50 = some (.array (Tryz.prog.arrayLen 50) (Tryz.prog.elem 50)) := by kernel_rfl
  have hl : Tryz.prog.arrayLen 50 = 32 := by kernel_rfl
  have he : Tryz.prog.elem 50 = 5 := by kernel_rfl
  rw [run_sliceAt_array_all W _ _ hu, hl, he, Tryz.sizeOf5]
  simp only [Result.andThen_ok, slicedAt]
  simp [Addr.add_mid]
set_option maxRecDepth 100000 in
theorem cmpIt (x y : It) (W : World) : Calls Tryz.prog 67 #[.agg (itC x).toArray, .agg (itC y).toArray] W fun e w' => e = .returned (.int .i64 (cmpK x.key y.key)) ∧ ∃ q os', w' = grow (W.drewN q) os' := by
  have HC := Lib.hid (show ((itC x).drop 1).take 32 = keyL x.key ∧ ((itC y).drop 1).take 32 = keyL y.key by
    constructor <;> (unfold itC; rw [List.drop_succ_cons, List.drop_zero, List.take_left' (keyL_len _)]))
  obtain ⟨r, hr⟩ : ∃ r, r = cmpK x.key y.key := ⟨_, rfl⟩
  rw [← hr]
  have HR := Lib.hid (show r = compareBytes (bytesOf x.key.1) (bytesOf y.key.1) from hr)
  clear hr
  go_enter Tryz.func67, Tryz.ntmps67
  go_wp2_with fail
  obtain ⟨wa, hwa⟩ : ∃ wa, wa = ((W.alloc (Obj.cells (itC x).toArray 56)).alloc (Obj.cells (itC y).toArray 56)).drew := ⟨_, rfl⟩
  have K1 := Lib.hid (show Blk wa W.heap.size 56 (itC x).toArray by rw [hwa]; exact ((Blk.made _ _ _).alloc _).drew)
  have K2 := Lib.hid (show Blk wa (W.heap.size + 1) 56 (itC y).toArray by rw [hwa]; exact (Blk.made_at _ _ _ (by simp)).drew)
  have HW := Lib.hid hwa
  refine wp_region_qs (fun _ _ => True) [(0, some 1), (1, some 0), (2, some 1), (3, some 0), (4, none), (5, some 1)] (by kernel_rfl) (by kernel_rfl) (by kernel_rfl) (by kernel_rfl) (by kernel_rfl) (fun _ _ _ _ _ h => h) trivial ?_
  rw [← hwa]
  clear hwa
  simp only [List.map_cons, List.map_nil, List.getD_cons_succ, List.getD_cons_zero]
  (repeat (first | ((first | (refine qs_run (v := .slice (some ⟨W.heap.size, 1, none⟩) 32 32) (by rfl) ?_ ?_; rotate_left 1; (· (intro j w' hS; unfold execOp; simp only [Option.map_none]; show Sem.run _ ((Instr.sliceAt 50 (.pointer (some ⟨W.heap.size, 1, none⟩)) none none none) >>= fun v => pure (Next.value v)) w' = _; rw [Sem.run_bind, slice_key]; rfl))) | (refine qs_run (v := .slice (some ⟨W.heap.size + 1, 1, none⟩) 32 32) (by rfl) ?_ ?_; rotate_left 1; (· (intro j w' hS; unfold execOp; simp only [Option.map_none]; show Sem.run _ ((Instr.sliceAt 50 (.pointer (some ⟨W.heap.size + 1, 1, none⟩)) none none none) >>= fun v => pure (Next.value v)) w' = _; rw [Sem.run_bind, slice_key]; rfl)))); simp only [Act.put, List.setIfInBounds_toArray, List.set_cons_zero, List.set_cons_succ]) | (refine qs_now (v := ?_) (by rfl) ?_ ?_; rotate_left 1; (· (intro w' hS; go_simp; (try (simp only [↓IntWalk.iteOmega]; go_simp)); (try simp (disch := omega) only [IntWalk.i64_in]); try with_reducible rfl)); simp only [Act.put, List.setIfInBounds_toArray, List.set_cons_zero, List.set_cons_succ]) | (refine qs_run (v := ?_) (by rfl) ?_ ?_; rotate_left 1; (· (intro j w' hS; go_simp; (try (simp only [↓IntWalk.iteOmega]; go_simp)); (try simp (disch := omega) only [IntWalk.i64_in]); try with_reducible rfl)); simp only [Act.put, List.setIfInBounds_toArray, List.set_cons_zero, List.set_cons_succ]) | (refine qs_skip (by rfl) ?_; simp only [Act.put, List.setIfInBounds_toArray, List.set_cons_zero, List.set_cons_succ])))
  refine qs_act ?_
  go_wp2_with fail
  refine (bcompare_any wa W.heap.size 1 32 32 (W.heap.size + 1) 1 32 32 x.key.1 y.key.1 (K1.out.rdKey HC.out.1) (K2.out.rdKey HC.out.2)).mono ?_
  rintro e w' ⟨rfl, rfl⟩
  rw [← HR.out]
  go_wp2
  refine ⟨trivial, ?_⟩
  (repeat (first | (refine qs_now (v := ?_) (by rfl) ?_ ?_; rotate_left 1; (· (intro w' hS; go_simp; (try (simp only [↓IntWalk.iteOmega]; go_simp)); (try simp (disch := omega) only [IntWalk.i64_in]); try with_reducible rfl)); simp only [Act.put, List.setIfInBounds_toArray, List.set_cons_zero, List.set_cons_succ]) | (refine qs_run (v := ?_) (by rfl) ?_ ?_; rotate_left 1; (· (intro j w' hS; go_simp; (try (simp only [↓IntWalk.iteOmega]; go_simp)); (try simp (disch := omega) only [IntWalk.i64_in]); try with_reducible rfl)); simp only [Act.put, List.setIfInBounds_toArray, List.set_cons_zero, List.set_cons_succ]) | (refine qs_skip (by rfl) ?_; simp only [Act.put, List.setIfInBounds_toArray, List.set_cons_zero, List.set_cons_succ])))
  refine qs_nil ?_
  go_wp2_with fail
  go_ret
  refine ⟨rfl, 1, #[Obj.cells (itC x).toArray 56, Obj.cells (itC y).toArray 56], ?_⟩
  rw [HW.out, alloc_eq_grow, alloc_eq_grow, grow_grow]
  rfl
set_option maxRecDepth 100000 in
theorem cmpCn (x y : Cn) (W : World) : Calls Tryz.prog 116 #[.agg (cnC x).toArray, .agg (cnC y).toArray] W fun e w' => e = .returned (.int .i64 (cmpK x.key y.key)) ∧ ∃ q os', w' = grow (W.drewN q) os' := by
  have HC := Lib.hid (show ((cnC x).drop 0).take 32 = keyL x.key ∧ ((cnC y).drop 0).take 32 = keyL y.key by
    constructor <;> (unfold cnC; rw [List.drop_zero, List.take_left' (keyL_len _)]))
  obtain ⟨r, hr⟩ : ∃ r, r = cmpK x.key y.key := ⟨_, rfl⟩
  rw [← hr]
  have HR := Lib.hid (show r = compareBytes (bytesOf x.key.1) (bytesOf y.key.1) from hr)
  clear hr
  go_enter Tryz.func116, Tryz.ntmps116
  go_wp2_with fail
  obtain ⟨wa, hwa⟩ : ∃ wa, wa = ((W.alloc (Obj.cells (cnC x).toArray 89)).alloc (Obj.cells (cnC y).toArray 89)).drew := ⟨_, rfl⟩
  have K1 := Lib.hid (show Blk wa W.heap.size 89 (cnC x).toArray by rw [hwa]; exact ((Blk.made _ _ _).alloc _).drew)
  have K2 := Lib.hid (show Blk wa (W.heap.size + 1) 89 (cnC y).toArray by rw [hwa]; exact (Blk.made_at _ _ _ (by simp)).drew)
  have HW := Lib.hid hwa
  refine wp_region_qs (fun _ _ => True) [(0, some 1), (1, some 0), (2, some 1), (3, some 0), (4, none), (5, some 1)] (by kernel_rfl) (by kernel_rfl) (by kernel_rfl) (by kernel_rfl) (by kernel_rfl) (fun _ _ _ _ _ h => h) trivial ?_
  rw [← hwa]
  clear hwa
  simp only [List.map_cons, List.map_nil, List.getD_cons_succ, List.getD_cons_zero]
  (repeat (first | ((first | (refine qs_run (v := .slice (some ⟨W.heap.size, 0, none⟩) 32 32) (by rfl) ?_ ?_; rotate_left 1; (· (intro j w' hS; unfold execOp; simp only [Option.map_none]; show Sem.run _ ((Instr.sliceAt 50 (.pointer (some ⟨W.heap.size, 0, none⟩)) none none none) >>= fun v => pure (Next.value v)) w' = _; rw [Sem.run_bind, slice_key]; rfl))) | (refine qs_run (v := .slice (some ⟨W.heap.size + 1, 0, none⟩) 32 32) (by rfl) ?_ ?_; rotate_left 1; (· (intro j w' hS; unfold execOp; simp only [Option.map_none]; show Sem.run _ ((Instr.sliceAt 50 (.pointer (some ⟨W.heap.size + 1, 0, none⟩)) none none none) >>= fun v => pure (Next.value v)) w' = _; rw [Sem.run_bind, slice_key]; rfl)))); simp only [Act.put, List.setIfInBounds_toArray, List.set_cons_zero, List.set_cons_succ]) | (refine qs_now (v := ?_) (by rfl) ?_ ?_; rotate_left 1; (· (intro w' hS; go_simp; (try (simp only [↓IntWalk.iteOmega]; go_simp)); (try simp (disch := omega) only [IntWalk.i64_in]); try with_reducible rfl)); simp only [Act.put, List.setIfInBounds_toArray, List.set_cons_zero, List.set_cons_succ]) | (refine qs_run (v := ?_) (by rfl) ?_ ?_; rotate_left 1; (· (intro j w' hS; go_simp; (try (simp only [↓IntWalk.iteOmega]; go_simp)); (try simp (disch := omega) only [IntWalk.i64_in]); try with_reducible rfl)); simp only [Act.put, List.setIfInBounds_toArray, List.set_cons_zero, List.set_cons_succ]) | (refine qs_skip (by rfl) ?_; simp only [Act.put, List.setIfInBounds_toArray, List.set_cons_zero, List.set_cons_succ])))
  refine qs_act ?_
  go_wp2_with fail
  refine (bcompare_any wa W.heap.size 0 32 32 (W.heap.size + 1) 0 32 32 x.key.1 y.key.1 (K1.out.rdKey HC.out.1) (K2.out.rdKey HC.out.2)).mono ?_
  rintro e w' ⟨rfl, rfl⟩
  rw [← HR.out]
  go_wp2
  refine ⟨trivial, ?_⟩
  (repeat (first | (refine qs_now (v := ?_) (by rfl) ?_ ?_; rotate_left 1; (· (intro w' hS; go_simp; (try (simp only [↓IntWalk.iteOmega]; go_simp)); (try simp (disch := omega) only [IntWalk.i64_in]); try with_reducible rfl)); simp only [Act.put, List.setIfInBounds_toArray, List.set_cons_zero, List.set_cons_succ]) | (refine qs_run (v := ?_) (by rfl) ?_ ?_; rotate_left 1; (· (intro j w' hS; go_simp; (try (simp only [↓IntWalk.iteOmega]; go_simp)); (try simp (disch := omega) only [IntWalk.i64_in]); try with_reducible rfl)); simp only [Act.put, List.setIfInBounds_toArray, List.set_cons_zero, List.set_cons_succ]) | (refine qs_skip (by rfl) ?_; simp only [Act.put, List.setIfInBounds_toArray, List.set_cons_zero, List.set_cons_succ])))
  refine qs_nil ?_
  go_wp2_with fail
  go_ret
  refine ⟨rfl, 1, #[Obj.cells (cnC x).toArray 89, Obj.cells (cnC y).toArray 89], ?_⟩
  rw [HW.out, alloc_eq_grow, alloc_eq_grow, grow_grow]
  rfl
end Go.Proofs.YtgjjdfhoakailaaGreat
