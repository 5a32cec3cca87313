/-
  bytes.Compare at two keys; slices.SortFunc at rows of the call's own: what the sort leaves.
-/
import Derived.Test.YtgjjdfhoakailaaGreatStR
import Derived.Test.YtgjjdfhoakailaaGreatStM
import Derived.Test.YtgjjdfhoakailaaGreatLayg
import Derived.Lib.BytesEntry
namespace Go.Proofs.YtgjjdfhoakailaaGreat
open Go.RowKit Go.Maps Go.Sort Go.Shelf
set_option linter.unusedVariables false
set_option linter.unusedSimpArgs false

/-! ### bytes.Compare -/
theorem run_bytesOf {P : Program} (w : World) (b off n c : Nat) (xs : List Int) (h : RdI .u8 w (some ⟨b, off, none⟩) n xs) : (Extern.Bytes.bytesOf (.slice (some ⟨b, off, none⟩) n c)).run P w = .ok ⟨(Lib.bytesOf xs).toArray⟩ w := by
  have hl := Lib.run_loadBytesX (P := P) w xs ⟨b, off, none⟩ .empty (fun j x hj => by
    have hjl : j < xs.length := (List.getElem?_eq_some_iff.1 hj).1
    rw [Addr.add_mid]
    obtain ⟨b', off', e, _, hc⟩ := h.2 (by have := h.1; omega)
    injection e with e
    injection e with e1 e2
    subst e1 e2
    rw [hc j (by have := h.1; omega), List.getD_eq_getElem?_getD, hj]
    rfl)
  rw [h.1] at hl
  have he : (⟨ByteArray.empty.data ++ (Lib.bytesOf xs).toArray⟩ : ByteArray) = ⟨(Lib.bytesOf xs).toArray⟩ := by
    apply ByteArray.ext
    show (#[] : Array UInt8) ++ (Lib.bytesOf xs).toArray = (Lib.bytesOf xs).toArray
    simp
  rw [he] at hl
  exact hl
theorem run_compareSlices {P : Program} (w : World) (b1 o1 n1 c1 b2 o2 n2 c2 : Nat) (xs ys : List Int) (h1 : RdI .u8 w (some ⟨b1, o1, none⟩) n1 xs) (h2 : RdI .u8 w (some ⟨b2, o2, none⟩) n2 ys) :
    (Extern.BytealgCompare.compare #[.slice (some ⟨b1, o1, none⟩) n1 c1, .slice (some ⟨b2, o2, none⟩) n2 c2]).run P w = .ok (.int .i64 (Lib.compareBytes (Lib.bytesOf xs) (Lib.bytesOf ys))) w := by
  change Sem.run P (do pure (goInt (Extern.BytealgCompare.cmp (← Extern.Bytes.bytesOf (.slice (some ⟨b1, o1, none⟩) n1 c1)) (← Extern.Bytes.bytesOf (.slice (some ⟨b2, o2, none⟩) n2 c2))))) w = _
  simp only [Sem.run_bind, run_bytesOf w b1 o1 n1 c1 xs h1, run_bytesOf w b2 o2 n2 c2 ys h2, Sem.run_pure, Result.andThen]
  rw [Lib.cmp_eq]
  rfl
theorem bcompare_any (w : World) (b1 o1 n1 c1 b2 o2 n2 c2 : Nat) (xs ys : List Int) (h1 : RdI .u8 w (some ⟨b1, o1, none⟩) n1 xs) (h2 : RdI .u8 w (some ⟨b2, o2, none⟩) n2 ys) :
    Calls Tryz.prog 68 #[.slice (some ⟨b1, o1, none⟩) n1 c1, .slice (some ⟨b2, o2, none⟩) n2 c2] w fun e w' => e = .returned (.int .i64 (Lib.compareBytes (Lib.bytesOf xs) (Lib.bytesOf ys))) ∧ w = w' := by
  have hrun := run_compareSlices (P := Tryz.prog) w b1 o1 n1 c1 b2 o2 n2 c2 xs ys h1 h2
  have hx : (callFunc 105 #[.slice (some ⟨b1, o1, none⟩) n1 c1, .slice (some ⟨b2, o2, none⟩) n2 c2]).run Tryz.prog w = .ok (.value (.int .i64 (Lib.compareBytes (Lib.bytesOf xs) (Lib.bytesOf ys)))) w := by
    rw [run_callFunc_extern Tryz.func105 (by kernel_rfl) (by kernel_rfl) (by kernel_rfl) (e := Extern.BytealgCompare.compare) (by kernel_rfl), hrun]
    rfl
  clear h1 h2 hrun
  generalize Lib.compareBytes (Lib.bytesOf xs) (Lib.bytesOf ys) = r at *
  go_enter Tryz.func68, Tryz.ntmps68
  go_wp2
  go_ret
  exact ⟨rfl, rfl⟩
/-! ### The sort at a row of one's own -/
section
variable {α : Type} [Inhabited α] {enc : α → List Value} {k : Nat}
theorem flatK_list (hk : ∀ x, (enc x).length = k) (l : List α) : (flatK enc k l.toArray) = (l.flatMap enc).toArray := by
  rcases Nat.eq_zero_or_pos k with rfl | hpos
  · have h0 : l.flatMap enc = [] := by
      rw [List.flatMap_eq_nil_iff]
      intro x _
      exact List.length_eq_zero_iff.1 (hk x)
    rw [h0]
    apply Array.eq_empty_of_size_eq_zero
    simp
  · have hlen : (l.flatMap enc).length = l.length * k := by
      induction l with
      | nil => simp
      | cons x l ih => rw [List.flatMap_cons, List.length_append, hk, ih, List.length_cons, Nat.succ_mul]; omega
    refine ext_get! (by simp [hlen]) (fun t ht => ?_)
    have ht' : t < l.length * k := by simpa using ht
    rw [get_flatK _ _ _ _ (by simpa using ht')]
    have hq : t / k < l.length := (Nat.div_lt_iff_lt_mul hpos).2 ht'
    have hr : t % k < k := Nat.mod_lt _ hpos
    have e1 : (l.toArray)[t / k]! = l[t / k] := by simp [hq]
    have key : ∀ (l : List α) (q r : Nat) (hq : q < l.length), r < k → (l.flatMap enc)[q * k + r]? = (enc (l[q]'hq))[r]? := by
      intro l
      induction l with
      | nil => intro q r hq; simp at hq
      | cons x l ih =>
        intro q r hq hr
        rw [List.flatMap_cons]
        rcases q with _ | q
        · rw [Nat.zero_mul, Nat.zero_add, List.getElem?_append_left (by rw [hk]; exact hr)]; rfl
        · rw [List.getElem?_append_right (by rw [hk, Nat.succ_mul]; omega), hk]
          have := ih q r (by simpa using hq) hr
          rw [show (q + 1) * k + r - k = q * k + r by rw [Nat.succ_mul]; omega, this]
          rfl
    rw [e1]
    have h := key l (t / k) (t % k) hq hr
    rw [show t / k * k + t % k = t by rw [Nat.mul_comm]; exact Nat.div_add_mod t k] at h
    have hlt : t < (l.flatMap enc).length := by rw [hlen]; exact ht'
    have hlt2 : t % k < (enc l[t / k]).length := by rw [hk]; exact hr
    rw [List.getElem?_eq_getElem hlt, List.getElem?_eq_getElem hlt2] at h
    injection h with h
    rw [getElem!_pos (enc l[t / k]) (t % k) hlt2, getElem!_pos (l.flatMap enc).toArray t (by rw [List.size_toArray]; exact hlt)]
    rw [List.getElem_toArray]
    exact h.symm
theorem sort_holds {w : World} {g : Nat} {cur : Array Value} {e : TypeId} (hk : ∀ x, (enc x).length = k) (l : List α) (hb : w.heap[g]? = some (.cells cur e (0, 0))) (ht : cur.toList.take (l.length * k) = l.flatMap enc) : HoldsK enc k w g 0 l.toArray := by
  unfold HoldsK
  rw [flatK_list hk]
  intro j hj
  have hj' : j < (l.flatMap enc).length := by simpa using hj
  refine ⟨?_, by simp [World.frozen?, hb]⟩
  have hlen : (cur.toList.take (l.length * k)).length ≤ l.length * k := by rw [List.length_take]; omega
  have h1 : (cur.toList.take (l.length * k))[j]? = (l.flatMap enc)[j]? := by rw [ht]
  rw [ht] at hlen
  rw [List.getElem?_take_of_lt (by omega)] at h1
  simp only [World.cell?, hb, Nat.zero_add]
  simp only [Option.isSome_none, Bool.false_eq_true, if_false]
  rw [← Array.getElem?_toList, h1, List.getElem?_eq_getElem hj', getElem!_pos (l.flatMap enc).toArray j hj, List.getElem_toArray]
  rfl
theorem sort_own {w : World} {base g cap n m : Nat} {e : TypeId} {os : Array Obj} (hk : ∀ x, (enc x).length = k) (l l' : List α) (hl : l'.length = l.length) (h : w.ownsRow base e k (.slice (some ⟨g, 0, none⟩) n cap) n (l.flatMap enc)) (hn : n = l.length) :
    (sortWorldK enc k w g 0 m l'.toArray os).ownsRow base e k (.slice (some ⟨g, 0, none⟩) n cap) n (l'.flatMap enc) ∧ w.grownBy (sortWorldK enc k w g 0 m l'.toArray os) (some g) := by
  subst hn
  have hlen : (l'.flatMap enc).length = l.length * k := by
    rw [← hl]
    clear hl h
    induction l' with
    | nil => simp
    | cons x l ih => rw [List.flatMap_cons, List.length_append, hk, ih, List.length_cons, Nat.succ_mul]; omega
  unfold sortWorldK putRowK
  rw [flatK_list hk]
  rcases h.2 with ⟨h0, _⟩ | ⟨g', cap', cur, hv, hb, hg, h1, h2, h3, h4⟩
  · cases h0
  · injection hv with a1 a2 a3
    injection a1 with a1
    injection a1 with a1
    subst a1 a3
    have hgl : g < w.heap.size := (Array.getElem?_eq_some_iff.1 hg).1
    refine ⟨⟨hlen, .inr ⟨g, cap, putCells id 0 (l'.flatMap enc).toArray cur, rfl, hb, ?_, h1, h2, by simp [putCells, h3], ?_⟩⟩, ⟨rfl, rfl, rfl, by simp, fun i hi hne => ?_⟩⟩
    · rw [heap_grow_old _ _ (by simpa using hgl)]
      simp [putRow, mapBlock, Sort.ahead, Array.getElem?_modify, hg, onCells]
    · have hcs : (l'.flatMap enc).length ≤ cur.size := by rw [hlen, h3]; exact Nat.mul_le_mul_right _ h1
      rw [← hlen]
      apply List.ext_getElem?
      intro j
      by_cases hj : j < (l'.flatMap enc).length
      · generalize l'.flatMap enc = L at *
        rw [List.getElem?_take_of_lt hj, Array.getElem?_toList]
        simp [putCells, hj, show j < cur.size by omega]
      · rw [List.getElem?_take_eq_none (by omega), List.getElem?_eq_none (by omega)]
    · rw [heap_grow_old _ _ (by simpa using hi)]
      have : g ≠ i := fun e => hne (by rw [e])
      simp [putRow, mapBlock, Sort.ahead, Array.getElem?_modify, this]
theorem permIn_all {d d' : Array α} (h : PermIn 0 d.size d d') : d'.toList.Perm d.toList := by
  obtain ⟨h1, _, h3⟩ := h
  have e1 : d'.extract 0 d.size = d' := by rw [← h1]; simp
  have e2 : d.extract 0 d.size = d := by simp
  rwa [e1, e2] at h3
theorem sortedIn_all {lt : α → α → Bool} {d : Array α} (h : SortedIn lt 0 d.size d) : d.toList.Pairwise (fun x y => lt y x = false) := by
  rw [List.pairwise_iff_getElem]
  intro i j hi hj hij
  have := h i j (Nat.zero_le _) hij (by simpa using hj)
  simp at hi hj
  rw [getElem!_pos d j hj, getElem!_pos d i hi] at this
  simpa using this
end
end Go.Proofs.YtgjjdfhoakailaaGreat
