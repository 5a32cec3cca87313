/-
  what this claim needs of: StB, StB2, StX5, StMapE (written by cut.py).
-/
import Derived.Test.YtffalfacakdhkaaGreatDoorDStR
import Derived.Test.YtffalfacakdhkaaGreatDoorDStM
import Derived.Test.YtffalfacakdhkaaGreatDoorDLayg
import Derived.Lib.BytesEntry
import Derived.Shelf.SlSortCmp.NoneTotal
import Derived.Test.YtffalfacakdhkaaGreatDoorDStX
import Derived.Test.YtffalfacakdhkaaGreatDoorDStW
namespace Go.Proofs.YtffalfacakdhkaaGreatDoor
open Go.RowKit Go.Maps Go.Sort Go.Shelf
set_option linter.unusedVariables false
set_option linter.unusedSimpArgs false

theorem run_bytesOf {P : Program} (w : World) (b off n c : Nat) (xs : List Int) (h : RdI .u8 w (some ⟨b, off, none⟩) n xs) : (Extern.Bytes.bytesOf (.slice (some ⟨b, off, none⟩) n c)).run P w = .ok ⟨(Lib.bytesOf xs).toArray⟩ w := by
 have hl := Lib.run_loadBytesX (P := P) w xs ⟨b, off, none⟩ .empty (fun j x hj => by
  have hjl : j < xs.length := (List.getElem?_eq_some_iff.1 hj).1
  rw [Addr.add_mid]
  obtain ⟨b', off', e, _, hc⟩ := h.2 (by have := h.1; omega)
  injection e with e
  injection e with e1 e2
  subst e1 e2
  rw [hc j (by have := h.1; omega), List.getD_eq_getElem?_getD, hj]
  rfl)
 rw [h.1] at hl
 have he : (⟨ByteArray.empty.data ++ (Lib.bytesOf xs).toArray⟩ : ByteArray) = ⟨(Lib.bytesOf xs).toArray⟩ := by
  apply ByteArray.ext
  show (#[] : Array UInt8) ++ (Lib.bytesOf xs).toArray = (Lib.bytesOf xs).toArray
  simp
 rw [he] at hl
 exact hl
theorem run_compareSlices {P : Program} (w : World) (b1 o1 n1 c1 b2 o2 n2 c2 : Nat) (xs ys : List Int) (h1 : RdI .u8 w (some ⟨b1, o1, none⟩) n1 xs) (h2 : RdI .u8 w (some ⟨b2, o2, none⟩) n2 ys) :
  (Extern.BytealgCompare.compare #[.slice (some ⟨b1, o1, none⟩) n1 c1, .slice (some ⟨b2, o2, none⟩) n2 c2]).run P w = .ok (.int .i64 (Lib.compareBytes (Lib.bytesOf xs) (Lib.bytesOf ys))) w := by
 change Sem.run P (do pure (goInt (Extern.BytealgCompare.cmp (← Extern.Bytes.bytesOf (.slice (some ⟨b1, o1, none⟩) n1 c1)) (← Extern.Bytes.bytesOf (.slice (some ⟨b2, o2, none⟩) n2 c2))))) w = _
 simp only [Sem.run_bind, run_bytesOf w b1 o1 n1 c1 xs h1, run_bytesOf w b2 o2 n2 c2 ys h2, Sem.run_pure, Result.andThen]
 rw [Lib.cmp_eq]
 rfl
theorem bcompare_any (w : World) (b1 o1 n1 c1 b2 o2 n2 c2 : Nat) (xs ys : List Int) (h1 : RdI .u8 w (some ⟨b1, o1, none⟩) n1 xs) (h2 : RdI .u8 w (some ⟨b2, o2, none⟩) n2 ys) :
  Calls Tryz.prog 231 #[.slice (some ⟨b1, o1, none⟩) n1 c1, .slice (some ⟨b2, o2, none⟩) n2 c2] w fun e w' => e = .returned (.int .i64 (Lib.compareBytes (Lib.bytesOf xs) (Lib.bytesOf ys))) ∧ w = w' := by
 have hrun := run_compareSlices (P := Tryz.prog) w b1 o1 n1 c1 b2 o2 n2 c2 xs ys h1 h2
 have hx : (callFunc 305 #[.slice (some ⟨b1, o1, none⟩) n1 c1, .slice (some ⟨b2, o2, none⟩) n2 c2]).run Tryz.prog w = .ok (.value (.int .i64 (Lib.compareBytes (Lib.bytesOf xs) (Lib.bytesOf ys)))) w := by
  rw [run_callFunc_extern Tryz.func305 (by kernel_rfl) (by kernel_rfl) (by kernel_rfl) (e := Extern.BytealgCompare.compare) (by kernel_rfl), hrun]
  rfl
 clear h1 h2 hrun
 generalize Lib.compareBytes (Lib.bytesOf xs) (Lib.bytesOf ys) = r at *
 go_enter Tryz.func231, Tryz.ntmps231
 go_wp2
 go_ret
 exact ⟨rfl, rfl⟩
section
variable {α : Type} [Inhabited α] {enc : α → List Value} {k : Nat}
theorem flatK_list (hk : ∀ x, (enc x).length = k) (l : List α) : (flatK enc k l.toArray) = (l.flatMap enc).toArray := by
 rcases Nat.eq_zero_or_pos k with rfl | hpos
 ·have h0 : l.flatMap enc = [] := by
   rw [List.flatMap_eq_nil_iff]
   intro x _
   exact List.length_eq_zero_iff.1 (hk x)
  rw [h0]
  apply Array.eq_empty_of_size_eq_zero
  simp
 ·have hlen : (l.flatMap enc).length = l.length * k := by
   induction l with
   | nil => simp
   | cons x l ih => rw [List.flatMap_cons, List.length_append, hk, ih, List.length_cons, Nat.succ_mul]; omega
  refine ext_get! (by simp [hlen]) (fun t ht => ?_)
  have ht' : t < l.length * k := by simpa using ht
  rw [get_flatK _ _ _ _ (by simpa using ht')]
  have hq : t / k < l.length := (Nat.div_lt_iff_lt_mul hpos).2 ht'
  have hr : t % k < k := Nat.mod_lt _ hpos
  have e1 : (l.toArray)[t / k]! = l[t / k] := by simp [hq]
  have key : ∀ (l : List α) (q r : Nat) (hq : q < l.length), r < k → (l.flatMap enc)[q * k + r]? = (enc (l[q]'hq))[r]? := by
   intro l
   induction l with
   | nil => intro q r hq; simp at hq
   | cons x l ih =>
    intro q r hq hr
    rw [List.flatMap_cons]
    rcases q with _ | q
    ·rw [Nat.zero_mul, Nat.zero_add, List.getElem?_append_left (by rw [hk]; exact hr)]; rfl
    ·rw [List.getElem?_append_right (by rw [hk, Nat.succ_mul]; omega), hk]
     have := ih q r (by simpa using hq) hr
     rw [show (q + 1) * k + r - k = q * k + r by rw [Nat.succ_mul]; omega, this]
     rfl
  rw [e1]
  have h := key l (t / k) (t % k) hq hr
  rw [show t / k * k + t % k = t by rw [Nat.mul_comm]; exact Nat.div_add_mod t k] at h
  have hlt : t < (l.flatMap enc).length := by rw [hlen]; exact ht'
  have hlt2 : t % k < (enc l[t / k]).length := by rw [hk]; exact hr
  rw [List.getElem?_eq_getElem hlt, List.getElem?_eq_getElem hlt2] at h
  injection h with h
  rw [getElem!_pos (enc l[t / k]) (t % k) hlt2, getElem!_pos (l.flatMap enc).toArray t (by rw [List.size_toArray]; exact hlt)]
  rw [List.getElem_toArray]
  exact h.symm
theorem sort_holds {w : World} {g : Nat} {cur : Array Value} {e : TypeId} (hk : ∀ x, (enc x).length = k) (l : List α) (hb : w.heap[g]? = some (.cells cur e (0, 0))) (ht : cur.toList.take (l.length * k) = l.flatMap enc) : HoldsK enc k w g 0 l.toArray := by
 unfold HoldsK
 rw [flatK_list hk]
 intro j hj
 have hj' : j < (l.flatMap enc).length := by simpa using hj
 refine ⟨?_, by simp [World.frozen?, hb]⟩
 have hlen : (cur.toList.take (l.length * k)).length ≤ l.length * k := by rw [List.length_take]; omega
 have h1 : (cur.toList.take (l.length * k))[j]? = (l.flatMap enc)[j]? := by rw [ht]
 rw [ht] at hlen
 rw [List.getElem?_take_of_lt (by omega)] at h1
 simp only [World.cell?, hb, Nat.zero_add]
 simp only [Option.isSome_none, Bool.false_eq_true, if_false]
 rw [← Array.getElem?_toList, h1, List.getElem?_eq_getElem hj', getElem!_pos (l.flatMap enc).toArray j hj, List.getElem_toArray]
 rfl
theorem sort_own {w : World} {base g cap n m : Nat} {e : TypeId} {os : Array Obj} (hk : ∀ x, (enc x).length = k) (l l' : List α) (hl : l'.length = l.length) (h : w.ownsRow base e k (.slice (some ⟨g, 0, none⟩) n cap) n (l.flatMap enc)) (hn : n = l.length) :
  (sortWorldK enc k w g 0 m l'.toArray os).ownsRow base e k (.slice (some ⟨g, 0, none⟩) n cap) n (l'.flatMap enc) ∧ w.grownBy (sortWorldK enc k w g 0 m l'.toArray os) (some g) := by
 subst hn
 have hlen : (l'.flatMap enc).length = l.length * k := by
  rw [← hl]
  clear hl h
  induction l' with
  | nil => simp
  | cons x l ih => rw [List.flatMap_cons, List.length_append, hk, ih, List.length_cons, Nat.succ_mul]; omega
 unfold sortWorldK putRowK
 rw [flatK_list hk]
 rcases h.2 with ⟨h0, _⟩ | ⟨g', cap', cur, hv, hb, hg, h1, h2, h3, h4⟩
 ·cases h0
 ·injection hv with a1 a2 a3
  injection a1 with a1
  injection a1 with a1
  subst a1 a3
  have hgl : g < w.heap.size := (Array.getElem?_eq_some_iff.1 hg).1
  refine ⟨⟨hlen, .inr ⟨g, cap, putCells id 0 (l'.flatMap enc).toArray cur, rfl, hb, ?_, h1, h2, by simp [putCells, h3], ?_⟩⟩, ⟨rfl, rfl, rfl, by simp, fun i hi hne => ?_⟩⟩
  ·rw [heap_grow_old _ _ (by simpa using hgl)]
   simp [putRow, mapBlock, Sort.ahead, Array.getElem?_modify, hg, onCells]
  ·have hcs : (l'.flatMap enc).length ≤ cur.size := by rw [hlen, h3]; exact Nat.mul_le_mul_right _ h1
   rw [← hlen]
   apply List.ext_getElem?
   intro j
   by_cases hj : j < (l'.flatMap enc).length
   ·generalize l'.flatMap enc = L at *
    rw [List.getElem?_take_of_lt hj, Array.getElem?_toList]
    simp [putCells, hj, show j < cur.size by omega]
   ·rw [List.getElem?_take_eq_none (by omega), List.getElem?_eq_none (by omega)]
  ·rw [heap_grow_old _ _ (by simpa using hi)]
   have : g ≠ i := fun e => hne (by rw [e])
   simp [putRow, mapBlock, Sort.ahead, Array.getElem?_modify, this]
theorem permIn_all {d d' : Array α} (h : PermIn 0 d.size d d') : d'.toList.Perm d.toList := by
 obtain ⟨h1, _, h3⟩ := h
 have e1 : d'.extract 0 d.size = d' := by rw [← h1]; simp
 have e2 : d.extract 0 d.size = d := by simp
 rwa [e1, e2] at h3
theorem sortedIn_all {lt : α → α → Bool} {d : Array α} (h : SortedIn lt 0 d.size d) : d.toList.Pairwise (fun x y => lt y x = false) := by
 rw [List.pairwise_iff_getElem]
 intro i j hi hj hij
 have := h i j (Nat.zero_le _) hij (by simpa using hj)
 simp at hi hj
 rw [getElem!_pos d j hj, getElem!_pos d i hi] at this
 simpa using this
end
end Go.Proofs.YtffalfacakdhkaaGreatDoor
namespace Go.Proofs.YtffalfacakdhkaaGreatDoor
open Go.RowKit Go.Maps Go.Sort Go.Shelf Go.Lib
set_option linter.unusedVariables false
set_option linter.unusedSimpArgs false

theorem cb_cons (a b : UInt8) (r t : List UInt8) : compareBytes (a :: r) (b :: t) = if a.toNat < b.toNat then -1 else if b.toNat < a.toNat then 1 else compareBytes r t := by
 rw [compareBytes]
 simp only [UInt8.lt_iff_toNat_lt]
theorem cb_self : ∀ a : List UInt8, compareBytes a a = 0
 | [] => rfl
 | x :: l => by rw [cb_cons, if_neg (by omega), if_neg (by omega), cb_self l]
theorem cb_trans : ∀ a b c : List UInt8, compareBytes a b < 0 → compareBytes b c < 0 → compareBytes a c < 0
 | [], [], _, h, _ => by simp [compareBytes] at h
 | _ :: _, [], _, h, _ => by simp [compareBytes] at h
 | [], _ :: _, [], _, h => by simp [compareBytes] at h
 | _ :: _, _ :: _, [], _, h => by simp [compareBytes] at h
 | [], _ :: _, _ :: _, _, _ => by simp [compareBytes]
 | x :: a, y :: b, z :: c, h1, h2 => by
  rw [cb_cons] at h1 h2 ⊢
  split at h1
  ·split at h2
   ·rw [if_pos (by omega)]; decide
   ·split at h2
    ·omega
    ·rw [if_pos (by omega)]; decide
  ·split at h1
   ·omega
   ·split at h2
    ·rw [if_pos (by omega)]; decide
    ·split at h2
     ·omega
     ·rw [if_neg (by omega), if_neg (by omega)]
      exact cb_trans a b c h1 h2
theorem cb_ntrans : ∀ a b c : List UInt8, 0 ≤ compareBytes a b → 0 ≤ compareBytes b c → 0 ≤ compareBytes a c
 | [], [], [], _, _ => by simp [compareBytes]
 | [], [], _ :: _, _, h => by simp [compareBytes] at h
 | [], _ :: _, _, h, _ => by simp [compareBytes] at h
 | _ :: _, [], [], _, _ => by simp [compareBytes]
 | _ :: _, [], _ :: _, _, h => by simp [compareBytes] at h
 | _ :: _, _ :: _, [], _, _ => by simp [compareBytes]
 | x :: a, y :: b, z :: c, h1, h2 => by
  rw [cb_cons] at h1 h2 ⊢
  split at h1
  ·omega
  ·split at h2
   ·omega
   ·rw [if_neg (by omega)]
    split at h1
    ·rw [if_pos (by split at h2 <;> omega)]; decide
    ·split at h2
     ·rw [if_pos (by omega)]; decide
     ·rw [if_neg (by omega)]
      exact cb_ntrans a b c h1 h2
theorem cb_zero : ∀ a b : List UInt8, 0 ≤ compareBytes a b → 0 ≤ compareBytes b a → a = b
 | [], [], _, _ => rfl
 | [], _ :: _, h, _ => by simp [compareBytes] at h
 | _ :: _, [], _, h => by simp [compareBytes] at h
 | x :: a, y :: b, h1, h2 => by
  rw [cb_cons] at h1 h2
  by_cases a1 : x.toNat < y.toNat
  ·rw [if_pos a1] at h1
   omega
  ·by_cases a2 : y.toNat < x.toNat
   ·rw [if_pos a2] at h2
    omega
   ·rw [if_neg a1, if_neg a2] at h1
    rw [if_neg a2, if_neg a1] at h2
    have e : x = y := UInt8.toNat_inj.1 (by omega)
    rw [e, cb_zero a b h1 h2]
/-- Two keys, compared byte by byte. -/
def cmpK (K L : Key) : Int := compareBytes (bytesOf K.1) (bytesOf L.1)
theorem cmpK_self (K : Key) : cmpK K K = 0 := cb_self _
theorem bytesOf_inj {K L : Key} (h : bytesOf K.1 = bytesOf L.1) : K = L := by
 apply Subtype.ext
 have key : ∀ (xs ys : List Int), (∀ z ∈ xs, 0 ≤ z ∧ z < 256) → (∀ z ∈ ys, 0 ≤ z ∧ z < 256) → bytesOf xs = bytesOf ys → xs = ys := by
  intro xs
  induction xs with
  | nil => intro ys _ _ h; cases ys with
   | nil => rfl
   | cons _ _ => simp [bytesOf] at h
  | cons x xs ih => intro ys hx hy h; cases ys with
   | nil => simp [bytesOf] at h
   | cons y ys =>
    simp only [bytesOf, List.map_cons, List.cons.injEq] at h
    have e := congrArg UInt8.toNat h.1
    simp only [UInt8.toNat_ofNat'] at e
    have h1 := hx x (by simp)
    have h2 := hy y (by simp)
    rw [show x = y by omega, ih ys (fun z hz => hx z (by simp [hz])) (fun z hz => hy z (by simp [hz])) h.2]
 exact key _ _ K.2.2 L.2.2 h
theorem cmpK_zero {K L : Key} (h1 : 0 ≤ cmpK K L) (h2 : 0 ≤ cmpK L K) : K = L := bytesOf_inj (cb_zero _ _ h1 h2)
theorem ltOf_key {α : Type} (f : α → Key) (x y : α) : ltOf (fun x y : α => cmpK (f x) (f y)) x y = decide (cmpK (f x) (f y) < 0) := rfl
theorem swo_key {α : Type} (f : α → Key) : SWO (ltOf fun x y : α => cmpK (f x) (f y)) where
 irrefl x := by rw [ltOf_key, cmpK_self]; rfl
 trans x y z h1 h2 := by
  rw [ltOf_key] at *
  exact decide_eq_true (cb_trans _ _ _ (of_decide_eq_true h1) (of_decide_eq_true h2))
 ntrans x y z h1 h2 := by
  rw [ltOf_key] at *
  have h1 := of_decide_eq_false h1
  have h2 := of_decide_eq_false h2
  have := cb_ntrans (bytesOf (f x).1) (bytesOf (f y).1) (bytesOf (f z).1) (by unfold cmpK at h1; omega) (by unfold cmpK at h2; omega)
  exact decide_eq_false (by unfold cmpK; omega)
def SrtPost {α : Type} (enc : α → List Value) (k base n : Nat) (e : TypeId) (cf : α → α → Int) (v : Value) (l : List α) (w : World) (en : Ending) (w' : World) : Prop :=
 en = .returned (.tuple #[]) ∧ ∃ l' : List α, l'.Perm l ∧ l'.Pairwise (fun x y => ltOf cf y x = false) ∧ w'.ownsRow base e k v n (l'.flatMap enc) ∧ w.grownBy w' v.ownBlock
theorem sortFunc_own {P : Program} {ρ : Ren} {α : Type} [Inhabited α] (L : SlLaysF0.n6 P ρ) (k : Nat) (aE : ∀ w, (isAgg (ρ.t 24)).run P w = .ok true w) (zE : ∀ w, (Go.sizeOf (ρ.t 24)).run P w = .ok k w) (enc : α → List Value) (hk : ∀ x, (enc x).length = k) (h1 : ∀ x, ∀ v ∈ enc x, v.oneCell' = true) (cf : α → α → Int) (hO : SWO (ltOf cf)) (g : Nat)
  (eg : ∀ args w, (callFunc g args).run P w = .ok (.enter g args) w) (hcmp : ∀ (x y : α) (W : World), Calls P g #[.agg (enc x).toArray, .agg (enc y).toArray] W fun e w' => e = .returned (.int .i64 (cf x y)) ∧ ∃ q os', w' = grow (W.drewN q) os')
  (base : Nat) (e : TypeId) (v : Value) (l : List α) (w : World) (hown : w.ownsRow base e k v l.length (l.flatMap enc)) (hsz : l.length ≤ 1000000000) :
  Calls P (ρ.f 6) #[v, .func (.func g) #[] #[]] w (SrtPost enc k base l.length e cf v l w) := by
 rcases hown.2 with ⟨rfl, h0⟩ | ⟨g', cap, cur, rfl, hb, hg, hn, hc, hcs, ht⟩
 ·have hl : l = [] := List.eq_nil_of_length_eq_zero h0
  subst hl
  refine (AnyF.slices_SortFunc_none L none 0 (.func (.func g) #[] #[]) w).mono ?_
  rintro en w' ⟨rfl, rfl⟩
  exact ⟨rfl, [], List.Perm.refl _, List.Pairwise.nil, hown, World.grownBy.refl _ _⟩
 ·have hlt : g' < w.heap.size := (Array.getElem?_eq_some_iff.1 hg).1
  have hcon := AnyQ.slices_SortFunc L k aE zE enc hk h1 cf hO g #[] g' 0 cap l.toArray w eg (fun m os dk hdk x y => hcmp x y _) (sort_holds hk l hg ht) hlt (by simp; omega)
  rw [List.size_toArray] at hcon
  refine hcon.mono ?_
  rintro en w' ⟨rfl, d', n, os, hp, hs, rfl⟩
  have hpe : d'.toList.Perm l := by
   have := permIn_all (d := l.toArray) (d' := d') (by simpa using hp)
   simpa using this
  have hse : d'.toList.Pairwise (fun x y => ltOf cf y x = false) := by
   refine sortedIn_all (d := d') ?_
   have : d'.size = l.length := by have := hpe.length_eq; simpa using this
   rw [this]
   exact hs
  have := sort_own (m := n) (os := os) hk l d'.toList hpe.length_eq hown rfl
  rw [Array.toArray_toList] at this
  exact ⟨rfl, d'.toList, hpe, hse, this.1, this.2⟩
instance : Inhabited It := ⟨⟨0, zKey, zPl, 0, 0, zSl⟩⟩
instance : Inhabited Cn := ⟨⟨zKey, 0⟩⟩
theorem Blk.rdKey {w : World} {g off : Nat} {t : TypeId} {cs : List Value} {K : Key} (h : Blk w g t cs.toArray) (hv : (cs.drop off).take 32 = keyL K) : RdI .u8 w (some ⟨g, off, none⟩) 32 K.1 := by
 refine ⟨K.2.1, fun _ => ⟨g, off, rfl, h.lt, fun j hj => ?_⟩⟩
 have := h.part off (keyL K) (by rw [keyL_len]; exact hv) j (.int .u8 (K.1.getD j 0)) (by
  unfold keyL
  rw [List.getElem?_map, List.getD_eq_getElem?_getD, List.getElem?_eq_getElem (by rw [K.2.1]; exact hj)]
  rfl)
 exact this
theorem slice_key (b off : Nat) (W : World) : (Instr.sliceAt 179 (.pointer (some ⟨b, off, none⟩)) none none none).run Tryz.prog W = .ok (.slice (some ⟨b, off, none⟩) 32 32) W := by
 have hu : Tryz.prog.underlying 179 = some (.array (Tryz.prog.arrayLen 179) (Tryz.prog.elem 179)) := by kernel_rfl
 have hl : Tryz.prog.arrayLen 179 = 32 := by kernel_rfl
 have he : Tryz.prog.elem 179 = 5 := by kernel_rfl
 rw [run_sliceAt_array_all W _ _ hu, hl, he, Tryz.sizeOf5]
 simp only [Result.andThen_ok, slicedAt]
 simp [Addr.add_mid]
set_option maxRecDepth 100000 in
theorem cmpIt (x y : It) (W : World) : Calls Tryz.prog 230 #[.agg (itC x).toArray, .agg (itC y).toArray] W fun e w' => e = .returned (.int .i64 (cmpK x.key y.key)) ∧ ∃ q os', w' = grow (W.drewN q) os' := by
 have HC := yH (show ((itC x).drop 1).take 32 = keyL x.key ∧ ((itC y).drop 1).take 32 = keyL y.key by
  constructor <;> (unfold itC; rw [List.drop_succ_cons, List.drop_zero, List.take_left' (keyL_len _)]))
 obtain ⟨r, hr⟩ : ∃ r, r = cmpK x.key y.key := ⟨_, rfl⟩
 rw [← hr]
 have HR := yH (show r = compareBytes (bytesOf x.key.1) (bytesOf y.key.1) from hr)
 clear hr
 go_enter Tryz.func230, Tryz.ntmps230
 go_wp2_with fail
 obtain ⟨wa, hwa⟩ : ∃ wa, wa = ((W.alloc (Obj.cells (itC x).toArray 231)).alloc (Obj.cells (itC y).toArray 231)).drew := ⟨_, rfl⟩
 have K1 := yH (show Blk wa W.heap.size 231 (itC x).toArray by rw [hwa]; exact ((Blk.made _ _ _).alloc _).drew)
 have K2 := yH (show Blk wa (W.heap.size + 1) 231 (itC y).toArray by rw [hwa]; exact (Blk.made_at _ _ _ (by simp)).drew)
 have HW := yH hwa
 refine wp_region_qs (fun _ _ => True) [(0, some 1), (1, some 0), (2, some 1), (3, some 0), (4, none), (5, some 1)] (by kernel_rfl) (by kernel_rfl) (by kernel_rfl) (by kernel_rfl) (by kernel_rfl) (fun _ _ _ _ _ h => h) trivial ?_
 rw [← hwa]
 clear hwa
 simp only [yD, yE, yF, yG]
 (repeat (first | ((first | (refine qs_run (v := .slice (some ⟨W.heap.size, 1, none⟩) 32 32) (by rfl) ?_ ?_; rotate_left 1; (· (intro j w' hS; unfold execOp; simp only [Option.map_none]; show Sem.run _ ((Instr.sliceAt 179 (.pointer (some ⟨W.heap.size, 1, none⟩)) none none none) >>= fun v => pure (Next.value v)) w' = _; rw [Sem.run_bind, slice_key]; rfl))) | (refine qs_run (v := .slice (some ⟨W.heap.size + 1, 1, none⟩) 32 32) (by rfl) ?_ ?_; rotate_left 1; (· (intro j w' hS; unfold execOp; simp only [Option.map_none]; show Sem.run _ ((Instr.sliceAt 179 (.pointer (some ⟨W.heap.size + 1, 1, none⟩)) none none none) >>= fun v => pure (Next.value v)) w' = _; rw [Sem.run_bind, slice_key]; rfl)))); simp only [Act.put, yA, yB, yC]) | (refine qs_mid (v := ?_) (by rfl) ?_ ?_; rotate_left 1; (· (intro j w' hj1 hj2 hS; go_simp; (try (simp only [↓IntWalk.iteOmega]; go_simp)); (try simp (disch := omega) only [IntWalk.i64_in]); try with_reducible rfl)); simp only [Act.put, yA, yB, yC]) | (refine qs_skip (by rfl) ?_; simp only [Act.put, yA, yB, yC])))
 refine qs_act ?_
 go_wp2_with fail
 refine (bcompare_any wa W.heap.size 1 32 32 (W.heap.size + 1) 1 32 32 x.key.1 y.key.1 (K1.out.rdKey HC.out.1) (K2.out.rdKey HC.out.2)).mono ?_
 rintro e w' ⟨rfl, rfl⟩
 rw [← HR.out]
 go_wp2
 refine ⟨trivial, ?_⟩
 (repeat (first | (refine qs_mid (v := ?_) (by rfl) ?_ ?_; rotate_left 1; (· (intro j w' hj1 hj2 hS; go_simp; (try (simp only [↓IntWalk.iteOmega]; go_simp)); (try simp (disch := omega) only [IntWalk.i64_in]); try with_reducible rfl)); simp only [Act.put, yA, yB, yC]) | (refine qs_skip (by rfl) ?_; simp only [Act.put, yA, yB, yC])))
 refine qs_nil ?_
 go_wp2_with fail
 go_ret
 refine ⟨rfl, 1, #[Obj.cells (itC x).toArray 231, Obj.cells (itC y).toArray 231], ?_⟩
 rw [HW.out, alloc_eq_grow, alloc_eq_grow, grow_grow]
 rfl
set_option maxRecDepth 100000 in
theorem cmpCn (x y : Cn) (W : World) : Calls Tryz.prog 379 #[.agg (cnC x).toArray, .agg (cnC y).toArray] W fun e w' => e = .returned (.int .i64 (cmpK x.key y.key)) ∧ ∃ q os', w' = grow (W.drewN q) os' := by
 have HC := yH (show ((cnC x).drop 0).take 32 = keyL x.key ∧ ((cnC y).drop 0).take 32 = keyL y.key by
  constructor <;> (unfold cnC; rw [List.drop_zero, List.take_left' (keyL_len _)]))
 obtain ⟨r, hr⟩ : ∃ r, r = cmpK x.key y.key := ⟨_, rfl⟩
 rw [← hr]
 have HR := yH (show r = compareBytes (bytesOf x.key.1) (bytesOf y.key.1) from hr)
 clear hr
 go_enter Tryz.func379, Tryz.ntmps379
 go_wp2_with fail
 obtain ⟨wa, hwa⟩ : ∃ wa, wa = ((W.alloc (Obj.cells (cnC x).toArray 368)).alloc (Obj.cells (cnC y).toArray 368)).drew := ⟨_, rfl⟩
 have K1 := yH (show Blk wa W.heap.size 368 (cnC x).toArray by rw [hwa]; exact ((Blk.made _ _ _).alloc _).drew)
 have K2 := yH (show Blk wa (W.heap.size + 1) 368 (cnC y).toArray by rw [hwa]; exact (Blk.made_at _ _ _ (by simp)).drew)
 have HW := yH hwa
 refine wp_region_qs (fun _ _ => True) [(0, some 1), (1, some 0), (2, some 1), (3, some 0), (4, none), (5, some 1)] (by kernel_rfl) (by kernel_rfl) (by kernel_rfl) (by kernel_rfl) (by kernel_rfl) (fun _ _ _ _ _ h => h) trivial ?_
 rw [← hwa]
 clear hwa
 simp only [yD, yE, yF, yG]
 (repeat (first | ((first | (refine qs_run (v := .slice (some ⟨W.heap.size, 0, none⟩) 32 32) (by rfl) ?_ ?_; rotate_left 1; (· (intro j w' hS; unfold execOp; simp only [Option.map_none]; show Sem.run _ ((Instr.sliceAt 179 (.pointer (some ⟨W.heap.size, 0, none⟩)) none none none) >>= fun v => pure (Next.value v)) w' = _; rw [Sem.run_bind, slice_key]; rfl))) | (refine qs_run (v := .slice (some ⟨W.heap.size + 1, 0, none⟩) 32 32) (by rfl) ?_ ?_; rotate_left 1; (· (intro j w' hS; unfold execOp; simp only [Option.map_none]; show Sem.run _ ((Instr.sliceAt 179 (.pointer (some ⟨W.heap.size + 1, 0, none⟩)) none none none) >>= fun v => pure (Next.value v)) w' = _; rw [Sem.run_bind, slice_key]; rfl)))); simp only [Act.put, yA, yB, yC]) | (refine qs_mid (v := ?_) (by rfl) ?_ ?_; rotate_left 1; (· (intro j w' hj1 hj2 hS; go_simp; (try (simp only [↓IntWalk.iteOmega]; go_simp)); (try simp (disch := omega) only [IntWalk.i64_in]); try with_reducible rfl)); simp only [Act.put, yA, yB, yC]) | (refine qs_skip (by rfl) ?_; simp only [Act.put, yA, yB, yC])))
 refine qs_act ?_
 go_wp2_with fail
 refine (bcompare_any wa W.heap.size 0 32 32 (W.heap.size + 1) 0 32 32 x.key.1 y.key.1 (K1.out.rdKey HC.out.1) (K2.out.rdKey HC.out.2)).mono ?_
 rintro e w' ⟨rfl, rfl⟩
 rw [← HR.out]
 go_wp2
 refine ⟨trivial, ?_⟩
 (repeat (first | (refine qs_mid (v := ?_) (by rfl) ?_ ?_; rotate_left 1; (· (intro j w' hj1 hj2 hS; go_simp; (try (simp only [↓IntWalk.iteOmega]; go_simp)); (try simp (disch := omega) only [IntWalk.i64_in]); try with_reducible rfl)); simp only [Act.put, yA, yB, yC]) | (refine qs_skip (by rfl) ?_; simp only [Act.put, yA, yB, yC])))
 refine qs_nil ?_
 go_wp2_with fail
 go_ret
 refine ⟨rfl, 1, #[Obj.cells (cnC x).toArray 368, Obj.cells (cnC y).toArray 368], ?_⟩
 rw [HW.out, alloc_eq_grow, alloc_eq_grow, grow_grow]
 rfl
end Go.Proofs.YtffalfacakdhkaaGreatDoor
namespace Go.Proofs.YtffalfacakdhkaaGreatDoor
open Go.RowKit Go.Maps Go.Sort Go.Shelf
set_option linter.unusedVariables false
set_option linter.unusedSimpArgs false

theorem sortIts (base : Nat) (v : Value) (l : List It) (w : World) (hown : w.ownsRow base 231 73 v l.length (itsC l)) (hsz : l.length ≤ 1000000000) :
  Calls Tryz.prog 229 #[v, .func (.func 230) #[] #[]] w (SrtPost itC 73 base l.length 231 (fun x y => cmpK x.key y.key) v l w) :=
 sortFunc_own Tryz.sortIt 73 Tryz.isAgg231 Tryz.sizeOf231 itC itC_len itC_one _ (swo_key It.key) 230 (enters_of Tryz.func230 (by kernel_rfl) rfl) cmpIt base _ v l w hown hsz
def exIt (p : Key × Pl) : It := ⟨1, p.1, p.2, 0, 0, zSl⟩
def leIt (x y : It) : Bool := !(ltOf (fun x y : It => cmpK x.key y.key) y x)
def xItems (E : ExM) : List It := (E.map exIt).mergeSort leIt
theorem leIt_trans (a b c : It) (h1 : leIt a b = true) (h2 : leIt b c = true) : leIt a c = true := by
 have := (swo_key It.key).ntrans c b a
 unfold leIt at *
 simp at h1 h2 ⊢
 exact this h2 h1
theorem leIt_total (a b : It) : (leIt a b || leIt b a) = true := by
 have h := (swo_key It.key)
 unfold leIt
 cases h1 : ltOf (fun x y : It => cmpK x.key y.key) b a
 ·rfl
 ·cases h2 : ltOf (fun x y : It => cmpK x.key y.key) a b
  ·rfl
  ·have := h.trans _ _ _ h1 h2
   rw [h.irrefl] at this
   cases this
theorem xItems_perm (E : ExM) : (xItems E).Perm (E.map exIt) := List.mergeSort_perm _ _
theorem xItems_sorted (E : ExM) : (xItems E).Pairwise (fun a b => leIt a b = true) := List.pairwise_mergeSort leIt_trans leIt_total _
theorem xItems_len (E : ExM) : (xItems E).length = E.length := by rw [(xItems_perm E).length_eq, List.length_map]
theorem xItems_eq {E : ExM} (hu : Uniq E) {l : List It} (hp : l.Perm (E.map exIt)) (hs : l.Pairwise (fun x y => ltOf (fun x y : It => cmpK x.key y.key) y x = false)) : l = xItems E := by
 refine List.Perm.eq_of_pairwise (le := fun a b => leIt a b = true) (fun a b ha hb h1 h2 => ?_) (hs.imp (fun {a b} h => by unfold leIt; rw [h]; rfl)) (xItems_sorted E) (hp.trans (xItems_perm E).symm)
 obtain ⟨p, hp1, rfl⟩ := List.mem_map.1 (hp.mem_iff.1 ha)
 obtain ⟨q, hq1, rfl⟩ := List.mem_map.1 ((xItems_perm E).mem_iff.1 hb)
 unfold leIt ltOf at h1 h2
 simp at h1 h2
 have hk : p.1 = q.1 := cmpK_zero (K := p.1) (L := q.1) h2 h1
 have e1 := aget_of_mem hu (x := p.1) (v := p.2) hp1
 have e2 := aget_of_mem hu (x := q.1) (v := q.2) hq1
 rw [hk, e2] at e1
 injection e1 with e1
 unfold exIt
 rw [hk, e1]
theorem RangeIs.tbelow {α β : Type} [DecidableEq α] {P : Program} {k : TypeId} {kv : α → Value} {kl : α → Lit} {ve : β → Value} {w w' : World} {b r : Nat} {M todo : List (α × β)} (h : RangeIs P k kv kl ve w b r M todo) (hb : Below w.heap.size w w') : RangeIs P k kv kl ve w' b r M todo := h.tch (T := []) (Tch.below hb) (by simp) (by simp)
theorem RangeIs.iter {α β : Type} [DecidableEq α] {P : Program} {k : TypeId} {kv : α → Value} {kl : α → Lit} {ve : β → Value} {w : World} {b r : Nat} {M todo : List (α × β)} (h : RangeIs P k kv kl ve w b r M todo) : ∃ s n c d, w.heap[r]? = some (.mapIter s n c d) := by
 obtain ⟨es, left, done, ⟨e2, c, s, sn, c0, g1, g2, g3, g4, g5, g6⟩, rest⟩ := h
 exact ⟨_, _, _, _, g5⟩
theorem own_obj {w : World} {base n sz : Nat} {e : TypeId} {v : Value} {xs : List Value} (h : w.ownsRow base e sz v n xs) {b : Nat} (hb : v.ownBlock = some b) : ∃ cs, w.heap[b]? = some (.cells cs e (0, 0)) := by
 rcases h.2 with ⟨rfl, _⟩ | ⟨g, cap, cur, rfl, _, h1, _⟩
 ·cases hb
 ·injection hb with hb
  simp only at hb
  subst hb
  exact ⟨_, h1⟩
theorem own_ne_iter {α β : Type} [DecidableEq α] {P : Program} {k : TypeId} {kv : α → Value} {kl : α → Lit} {ve : β → Value} {w : World} {b r : Nat} {M todo : List (α × β)} (h : RangeIs P k kv kl ve w b r M todo) {base n sz : Nat} {e : TypeId} {v : Value} {xs : List Value} (ho : w.ownsRow base e sz v n xs) : v.ownBlock ≠ some r ∧ v.ownBlock ≠ some b := by
 refine ⟨fun hv => ?_, fun hv => ?_⟩
 ·obtain ⟨cs, h1⟩ := own_obj ho hv
  obtain ⟨s, m, c, d, h2⟩ := h.iter
  rw [h1] at h2
  cases h2
 ·obtain ⟨cs, h1⟩ := own_obj ho hv
  obtain ⟨es, c, h2⟩ := h.owns.obj
  rw [h1] at h2
  cases h2
structure XRI (w : World) (xi bx r : Nat) (E : ExM) (v3 : Value) (l : List It) (todo : ExM) (wr : World) : Prop where
 blk : Blk wr xi 302 #[.map (some bx)]
 rng : RangeIs Tryz.prog 179 vKey klK vPl wr bx r E todo
 out : wr.ownsRow w.heap.size 231 73 v3 l.length (itsC l)
 low : Below w.heap.size w wr
 what : ∃ done, E.Perm (done ++ todo) ∧ l = done.map exIt
theorem XRI.len {w : World} {xi bx r : Nat} {E : ExM} {v3 : Value} {l : List It} {todo : ExM} {wr : World} (h : XRI w xi bx r E v3 l todo wr) : l.length + todo.length = E.length := by
 obtain ⟨done, h1, h2⟩ := h.what
 rw [h1.length_eq, h2]
 simp
def XMI (w : World) (xi bx r : Nat) (E : ExM) (k : Nat) (v3 : Value) (wr : World) : Prop := ∃ l todo, k = todo.length ∧ XRI w xi bx r E v3 l todo wr
set_option maxRecDepth 100000 in
set_option maxHeartbeats 2000000 in
theorem xItems_any {w : World} {xi bx : Nat} {E : ExM} (h : IdxIs w xi bx E) (hE : E.length ≤ 100000000) : Calls Tryz.prog 153 #[.pointer (some ⟨xi, 0, none⟩)] w fun e w' => ∃ v, e = .returned v ∧ w'.ownsRow w.heap.size 231 73 v (xItems E).length (itsC (xItems E)) ∧ Below w.heap.size w w' := by
 have H := yH h
 have c0 := h.cell
 clear h
 go_enter Tryz.func153, Tryz.ntmps153
 go_wp2_with (first
  | (go_at_call 195; refine (x_there H.out).mono ?_; rintro e w3 ⟨rfl, rfl⟩)
  | ((with_reducible show wpList _ _ _ (_ :: _) _ _); refine wpl_mrange rfl 300 (.tmp 12) rfl keyed_key Tryz.underlying300 H.out.map rfl ?_; intro w1 hr hg hz; have R1 := yH hr; have G1 := yH hg; clear hr hg hz))
 have L1 := yH (bl_n (Below.refl _ _) G1.out)
 have X1 := yH (show XRI w xi bx w.heap.size E (.slice none 0 0) [] E w1 from ⟨H.out.blk.grown G1.out (by simp), R1.out, World.ownsRow_nil _ _ _ _, L1.out, [], List.Perm.refl _, rfl⟩)
 go_frame
 clear R1 G1 L1
 go_loopg [3] E.length (fun k v3 wr => XMI w xi bx w.heap.size E k v3 wr)
 case atStart => exact ⟨[], E, rfl, X1.out⟩
 case round =>
  obtain ⟨l, todo, hk, hX⟩ := hrel
  have X := yH hX
  have HK := yH hk
  clear hX hk X1
  go_wp2_with ((with_reducible show wpList _ _ _ (_ :: _) _ _); refine wpl_mnext rfl (.tmp 13) rfl keyed_key X.out.rng rfl (fun p _ q _ h => klK_inj h) ?_ ?_)
  ·intro htd
   have hl := X.out.len
   rw [htd, List.length_nil, Nat.add_zero] at hl
   have HTd := yH htd
   have HLn := yH hl
   clear htd hl
   have hlb : l.length ≤ 1000000000 := by rw [HLn.out]; omega
   go_wp2_with (go_at_call 229; refine (sortIts w.heap.size u3 l wr X.out.out hlb).mono ?_; rintro e w2 ⟨rfl, l', hp, hs, ho, hg⟩; have P := yH hp; have S := yH hs; have O := yH ho; have G := yH hg; clear hp hs ho hg)
   go_ret
   obtain ⟨done, h1, h2⟩ := X.out.what
   rw [HTd.out, List.append_nil] at h1
   have e : l' = xItems E := xItems_eq X.out.rng.owns.uniq (P.out.trans (by rw [h2]; exact (h1.map exIt).symm)) S.out
   have ho := O.out
   rw [e, show l.length = (xItems E).length by rw [xItems_len]; exact HLn.out] at ho
   exact ⟨_, rfl, ho, (X.out.low).grown G.out X.out.low.size (fun k hk => (own_at X.out.out k hk).1)⟩
  ·intro kv kp pl todo' w1' hperm hR hg hsz hen
   obtain ⟨K, hK⟩ : ∃ K : Key, (⟨kv, kp⟩ : Key) = K := ⟨_, rfl⟩
   rw [hK] at hperm hen
   rw [hK]
   clear hK kp kv
   have hne := own_ne_iter X.out.rng X.out.out
   have hxr : xi ≠ w.heap.size := by
    obtain ⟨s, m, c, d, h2⟩ := X.out.rng.iter
    have h3 := X.out.blk
    intro e
    unfold Blk at h3
    rw [e, h2] at h3
    cases h3
   have Bx := yH (X.out.blk.grown hg (by simp; exact hxr))
   have Ox := yH (own_keptR X.out.out hg (fun b hb => by injection hb with hb; subst hb; exact hne.1))
   have Lx := yH (bl_g X.out.low hg (Nat.le_refl _))
   have Rx := yH hR
   have Px := yH hperm
   have Wx := yH X.out.what
   have HXl := yH X.out.len
   clear hne hxr hg hsz hR hperm X
   go_upto_region 7 with (first
    | ((with_reducible show wpList _ _ _ (_ :: _) _ _); refine wpl_alloc rfl 179 rfl Tryz.zeroValue179 32 rfl ?_; intro wA csA hk hc hg hz; have KA := yH hk; have CA := yH hc; have GA := yH hg; clear hk hc hg hz)
    | ((with_reducible show wpList _ _ _ (_ :: _) _ _); refine wpl_alloc rfl 177 rfl Tryz.zeroValue177 4 rfl ?_; intro wB csB hk hc hg hz; have KB := yH hk; have CB := yH hc; have GB := yH hg; clear hk hc hg hz; have KA2 := yH (KA.out.grown GB.out (by simp)))
    | ((with_reducible show wpList _ _ _ (_ :: _) _ _); refine wpl_over rfl 179 (.tmp 4) (.tmp 17) rfl w1'.heap.size (keyL K) rfl rfl _ csA KA2.out (keyL_info K) (by rw [keyL_len, CA.out]) (keyL_one K) ?_; intro wC hk hg hz; have KC := yH hk; have GC := yH hg; clear hk hg hz; have KB2 := yH (KB.out.grown GC.out (by have := blk_ne_ty KB.out KA2.out (by decide); simp; exact this)))
    | ((with_reducible show wpList _ _ _ (_ :: _) _ _); refine wpl_over rfl 177 (.tmp 5) (.tmp 18) rfl wA.heap.size (plC pl) rfl rfl _ csB KB2.out (plC_info pl) (by rw [CB.out]; rfl) (plC_one pl) ?_; intro wD hk hg hz; have KD := yH hk; have GD := yH hg; clear hk hg hz; have KC2 := yH (KC.out.grown GD.out (by have := blk_ne_ty KC.out KB2.out (by decide); simp; exact this))))
   have LD := yH (show Below w1'.heap.size w1' wD from bl_g (bl_g (bl_n (bl_n (Below.refl _ _) GA.out) GB.out) GC.out (Nat.le_refl _)) GD.out GA.out.size)
   have Bd := yH (Bx.out.below LD.out Bx.out.lt)
   have Od := yH (own_belowR Ox.out LD.out)
   have Ld := yH (below_chain Lx.out LD.out)
   have Rd := yH (Rx.out.tbelow LD.out)
   have Q1 := yH (show wD.rangeAt w1'.heap.size 0 (keyL K) by have := KC2.out.range; rwa [toArr] at this)
   have Q2 := yH (show wD.rangeAt wA.heap.size 0 (plC pl) by have := KD.out.range; rwa [toArr] at this)
   have hlb : l.length ≤ 1000000000 := by have := HXl.out; omega
   clear KA CA GA KB CB GB KA2 KC GC KB2 KD GD KC2 Bx Ox Lx Rx hen
   go_wp2_with (first
    | ((with_reducible show wpList _ _ _ (_ :: _) _ _); refine wpList_load_mid rfl 179 (.tmp 4) rfl w1'.heap.size 0 rfl (keyL K) _ Q1.out Tryz.underlying179 rfl (keyL_info _) ?_)
    | ((with_reducible show wpList _ _ _ (_ :: _) _ _); refine wpList_load_mid rfl 177 (.tmp 5) rfl wA.heap.size 0 rfl (plC pl) _ Q2.out Tryz.underlying177 rfl (plC_info _) ?_)
    | ((with_reducible show wpList _ _ _ (_ :: _) _ _); refine wpl_mk rfl 231 #[(0, .const (.int .u8 1)), (1, .tmp 20), (2, .tmp 21)] rfl [(0, .int .u8 1), (1, .agg (keyL K).toArray), (2, .agg (plC pl).toArray)] rfl _ (built_ext K pl) ?_)
    | ((with_reducible show wpList _ _ _ (_ :: _) _ _); refine wpl_lit_it rfl (.tmp 22) rfl (exIt (K, pl)) rfl ?_; intro wE hk hg hz; have KE := yH hk; have GE := yH hg; clear hk hg hz; have LE := yH (show Below wD.heap.size wD wE from bl_n (Below.refl _ _) GE.out); have Oe := yH (own_belowR Od.out LE.out); have Le := yH (below_chain Ld.out LE.out))
    | ((with_reducible show wpList _ _ _ (_ :: _) _ _); refine wpl_app_it rfl (.tmp 19) (.tmp 23) rfl w.heap.size u3 l rfl Oe.out _ (exIt (K, pl)) rfl KE.out hlb Le.out.size ?_; intro v' wF ho hg; have OF := yH ho; have GF := yH hg; clear ho hg))
   go_roundg todo'.length
   case measure => rw [HK.out, Px.out.length_eq, List.length_cons]; omega
   case rel =>
    obtain ⟨done, h1, h2⟩ := Wx.out
    have Re := Rd.out.tbelow LE.out
    have hne := own_ne_iter Re Oe.out
    refine ⟨l ++ [exIt (K, pl)], todo', rfl, (Bd.out.below LE.out Bd.out.lt).grown GF.out (fun e => own_blk Oe.out (Bd.out.below LE.out Bd.out.lt) (by decide) e.symm), Re.kept GF.out (fun e => hne.2 e.symm) (fun e => hne.1 e.symm), OF.out, Le.out.grown GF.out Le.out.size (fun k hk => (own_at Oe.out k hk).1), done ++ [(K, pl)], ?_, ?_⟩
    ·rw [List.append_assoc]
     exact h1.trans (List.Perm.append_left _ Px.out)
    ·rw [h2, List.map_append]; rfl
end Go.Proofs.YtffalfacakdhkaaGreatDoor
namespace Go.Proofs.YtffalfacakdhkaaGreatDoor
open Go.RowKit Go.Maps Go.ChangeMaps
set_option linter.unusedVariables false

section
variable {α β : Type} [DecidableEq α] {P : Program} {k : TypeId} {kv : α → Value} {kl : α → Lit} {ve : β → Value} {w : World} {b : Nat} {M : List (α × β)}
theorem MapIs.entry2 {t e : TypeId} (h : MapIs P k kv kl ve w b M) (K : Keyed P k) (KL : Go.WideMaps.KeyLaw P k) (ht : P.underlying t = some (.map k e)) {z : Value} (hz : ∀ u : World, (zeroValue e).run P u = .ok z u) (hn : M.length < maxLen) {x : α}
  (hinj : ∀ p ∈ M, kl p.1 = kl x → p.1 = x) (hx : keyOf P k (kv x) = some (kl x)) (zd : β) (hzd : ve zd = z) :
  ∃ v0 st w1, (Instr.mapEntry t (.map (some b)) (kv x)).run P w = .ok (.tuple #[v0, goInt st]) w1 ∧ w.grownBy w1 (some b) ∧ MapIs P k kv kl ve w1 b (aput M x ((aget M x).getD zd)) ∧
   ∀ (w2 : World) (v : β), w2.heap[b]? = w1.heap[b]? → ∃ w3, (Instr.entryStore t (.map (some b)) (goInt st) (ve v)).run P w2 = .ok () w3 ∧ MapIs P k kv kl ve w3 b (aput M x v) ∧ w2.grownBy w3 (some b) := by
 obtain ⟨v0, st, w1, hrun, hg, hst⟩ := h.entry K KL ht hz hn hinj hx
 refine ⟨v0, st, w1, hrun, hg, ?_, hst⟩
 have hlook := h.look K ht (hz w) hinj hx
 have hv : ve ((aget M x).getD zd) = ((aget M x).map ve).getD z := by
  cases aget M x with
  | none => exact hzd
  | some y => rfl
 obtain ⟨w', hup, hm, _⟩ := h.update K ht hn hinj hx ((aget M x).getD zd)
 rw [hv] at hup
 have key : (Instr.mapUpdate t (.map (some b)) (kv x) (((aget M x).map ve).getD z)).run P w = .ok () w1 := by
  generalize ((aget M x).map ve).getD z = u at hlook
  obtain ⟨es, ⟨es', clock, hb, F, _⟩, _⟩ := h
  rcases K.find w hx es'.toList F.keys with ⟨h1, h2⟩ | ⟨j, e0, h1, h2, h3⟩
  ·have e1 : z = u := by
    have : (Instr.lookup t (.map (some b)) (kv x) false).run P w = .ok z w := by simp [Instr.lookup, run_underlying ht, MapKept.run_getObj_map hb, K.check w _ hx, h1, hz, Result.andThen]
    rw [this] at hlook
    injection hlook
   subst e1
   have e2 : (Instr.mapEntry t (.map (some b)) (kv x)).run P w = .ok (.tuple #[z, goInt clock]) (setBlock w b (.map (es'.push ⟨kv x, z, clock⟩) (clock + 1))) := by
    simp [Instr.mapEntry, run_underlying ht, MapKept.run_getObj_map hb, K.check w false hx, h1, hz, MapKept.run_setObj_map _ hb, Result.andThen, setBlock]
   rw [hrun] at e2
   injection e2 with _ e2
   rw [e2]
   simp [Instr.mapUpdate, run_underlying ht, MapKept.run_getObj_map hb, K.check w false hx, h1, MapKept.run_setObj_map _ hb, Result.andThen, setBlock]
  ·have hj : es'[j]? = some e0 := by simpa using h2
   have e1 : e0.val = u := by
    have : (Instr.lookup t (.map (some b)) (kv x) false).run P w = .ok e0.val w := by simp [Instr.lookup, run_underlying ht, MapKept.run_getObj_map hb, K.check w _ hx, h1, Result.andThen]
    rw [this] at hlook
    injection hlook
   have hself : ∀ (l : List MapEntry) (i : Nat) (a : MapEntry), l[i]? = some a → l.set i a = l := fun l i a h => by
    apply List.ext_getElem?
    intro q
    rw [List.getElem?_set]
    split
    ·rename_i hq
     subst hq
     have := (List.getElem?_eq_some_iff.1 h).1
     rw [if_pos this, h]
    ·rfl
   have hsame : es'.modify j (fun e => { e with key := kv x }) = es' := by
    apply Array.ext'
    rw [Array.toList_modify, modify_eq_set _ _ _ _ h2]
    have : ({ e0 with key := kv x } : MapEntry) = e0 := by rw [← h3]
    rw [this]
    exact hself _ _ _ h2
   have hsame2 : es'.modify j (fun e => { e with key := kv x, val := u }) = es' := by
    apply Array.ext'
    rw [Array.toList_modify, modify_eq_set _ _ _ _ h2]
    have : ({ e0 with key := kv x, val := u } : MapEntry) = e0 := by rw [← h3, ← e1]
    rw [this]
    exact hself _ _ _ h2
   have e2 : (Instr.mapEntry t (.map (some b)) (kv x)).run P w = .ok (.tuple #[e0.val, goInt e0.born]) (setBlock w b (.map es' clock)) := by
    simp [Instr.mapEntry, run_underlying ht, MapKept.run_getObj_map hb, K.check w false hx, h1, hj, h3, K.stays w hx, hsame, MapKept.run_setObj_map _ hb, Result.andThen, setBlock]
   rw [hrun] at e2
   injection e2 with _ e2
   rw [e2]
   simp [Instr.mapUpdate, run_underlying ht, MapKept.run_getObj_map hb, K.check w false hx, h1, hj, h3, K.stays w hx, hsame2, MapKept.run_setObj_map _ hb, Result.andThen, setBlock]
 rw [hup] at key
 injection key with _ key
 rwa [key] at hm
theorem wpl_mentry2 {ops : Array Oper} {rest : List Oper} {o : Oper} {a : Act} {Q : Exit → Act → World → Prop} (hg : o.guard = none) (t : TypeId) (m x : Operand) (hop : o.op = .mapEntry t m x) {e : TypeId} (K : Keyed P k) (KL : Go.WideMaps.KeyLaw P k) (ht : P.underlying t = some (.map k e)) (h : MapIs P k kv kl ve w b M) (hn : M.length < maxLen) (hm : a.eval m = .map (some b)) (X : α) (hx : a.eval x = kv X)
  {z : Value} (hz : ∀ u : World, (zeroValue e).run P u = .ok z u) (hinj : ∀ p ∈ M, kl p.1 = kl X → p.1 = X) (hkey : keyOf P k (kv X) = some (kl X)) (zd : β) (hzd : ve zd = z)
  (hK : ∀ v0 (st : Int) w1, w.grownBy w1 (some b) → MapIs P k kv kl ve w1 b (aput M X ((aget M X).getD zd)) → (∀ (w2 : World) (v : β), w2.heap[b]? = w1.heap[b]? → ∃ w3, (Instr.entryStore t (.map (some b)) (.int .i64 st) (ve v)).run P w2 = .ok () w3 ∧ MapIs P k kv kl ve w3 b (aput M X v) ∧ w2.grownBy w3 (some b)) →
   wpList P ops Q rest (a.put o.dst (.tuple #[v0, .int .i64 st])) w1) : wpList P ops Q (o :: rest) a w := by
 refine wpList_plain hg fun K' hK' => ?_
 obtain ⟨v0, st, w1, hrun, h1, h3, h2⟩ := h.entry2 K KL ht hz hn hinj hkey zd hzd
 unfold Oper.wp
 simp [execOp, hop, hm, hx, hrun, Result.andThen]
 exact hK' _ _ (hK v0 st w1 h1 h3 h2)
end
theorem keyLaw_key : Go.WideMaps.KeyLaw Tryz.prog 179 := deep_law (m := 2) (by omega) (by kernel_rfl) (by kernel_rfl) (by rw [Tryz.underlying179])
end Go.Proofs.YtffalfacakdhkaaGreatDoor
