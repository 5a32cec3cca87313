/-
  maps: a map's cells, the maps in memory; New, known, of, Get, Set: walked.
-/
import Derived.Test.YtgjjdfhoakailaaGreatStW
namespace Go.Proofs.YtgjjdfhoakailaaGreat
open Go.RowKit Go.Maps
set_option linter.unusedVariables false
set_option linter.unusedSimpArgs false

theorem fm_len {f : Nat → List Value} {sz : Nat} (h : ∀ u, (f u).length = sz) (m : Nat) : ((List.range m).flatMap f).length = m * sz := by
  induction m with
  | zero => simp
  | succ m ih => rw [List.range_succ, List.flatMap_append, List.length_append, ih, List.flatMap_cons, List.flatMap_nil, List.append_nil, h, Nat.succ_mul]
theorem fm_cut {f : Nat → List Value} {sz : Nat} (h : ∀ u, (f u).length = sz) (m u : Nat) (hu : u < m) : ∃ A B, A.length = u * sz ∧ ∀ g : Nat → List Value, (∀ v, v ≠ u → g v = f v) → (List.range m).flatMap g = A ++ (g u ++ B) := by
  induction m with
  | zero => omega
  | succ m ih =>
    rcases Nat.lt_or_ge u m with h1 | h1
    · obtain ⟨A, B, hA, hB⟩ := ih h1
      refine ⟨A, B ++ f m, hA, fun g hg => ?_⟩
      rw [List.range_succ, List.flatMap_append, hB g hg, List.flatMap_cons, List.flatMap_nil, List.append_nil, hg m (by omega)]
      simp
    · have e : u = m := by omega
      subst e
      refine ⟨(List.range u).flatMap f, [], fm_len h u, fun g hg => ?_⟩
      rw [List.range_succ, List.flatMap_append, List.flatMap_cons, List.flatMap_nil, List.append_nil]
      congr 1
      rw [List.flatMap_def, List.flatMap_def]
      congr 1
      apply List.map_congr_left
      intro v hv
      exact hg v (by have := List.mem_range.1 hv; omega)
abbrev MpF := Nat → Sl
def upd (f : MpF) (u : Nat) (s : Sl) : MpF := fun v => if v = u then s else f v
def oneC (f : MpF) : List Value := (List.range 512).flatMap (fun u => slC (f u))
def mapsC (n : Nat) (f : MpF) (bs : Nat) : List Value := .int .i64 (n : Int) :: (oneC f ++ [.map (some bs)])
theorem toArr (l : List Value) : l.toArray.toList = l := by simp
theorem oneC_len (f : MpF) : (oneC f).length = 17408 := fm_len (sz := 34) (fun u => slC_len _) 512
theorem mapsC_len (n : Nat) (f : MpF) (bs : Nat) : (mapsC n f bs).length = 17410 := by simp [mapsC, oneC_len]
theorem oneC_cut (f : MpF) (u : Nat) (hu : u < 512) : ∃ A B, A.length = u * 34 ∧ ∀ s, oneC (upd f u s) = A ++ (slC s ++ B) := by
  obtain ⟨A, B, hA, hB⟩ := fm_cut (f := fun u => slC (f u)) (sz := 34) (fun u => slC_len _) 512 u hu
  refine ⟨A, B, hA, fun s => ?_⟩
  have := hB (fun v => slC (upd f u s v)) (fun v hv => by simp [upd, hv])
  unfold oneC
  rw [this]
  simp [upd]
theorem upd_self (f : MpF) (u : Nat) : upd f u (f u) = f := by
  funext v
  unfold upd
  split
  · rename_i h; rw [h]
  · rfl
theorem oneC_part (f : MpF) (u : Nat) (hu : u < 512) : ((oneC f).drop (u * 34)).take 34 = slC (f u) := by
  obtain ⟨A, B, hA, hB⟩ := oneC_cut f u hu
  have := hB (f u)
  rw [upd_self] at this
  rw [this, ← hA, List.drop_left, List.take_append_of_le_length (by rw [slC_len]; exact Nat.le_refl _), List.take_of_length_le (by rw [slC_len]; exact Nat.le_refl _)]
theorem mapsC_part (n : Nat) (f : MpF) (bs u : Nat) (hu : u < 512) : ((mapsC n f bs).drop (1 + u * 34)).take 34 = slC (f u) := by
  unfold mapsC
  rw [Nat.add_comm, List.drop_succ_cons, List.drop_append_of_le_length (by rw [oneC_len]; omega), List.take_append_of_le_length (by rw [List.length_drop, oneC_len]; omega), oneC_part f u hu]
theorem mapsC_one (n : Nat) (f : MpF) (bs : Nat) : ((mapsC n f bs).drop 1).take 17408 = oneC f := by
  unfold mapsC
  rw [List.drop_succ_cons, List.drop_zero, List.take_append_of_le_length (by rw [oneC_len]; omega), List.take_of_length_le (by rw [oneC_len]; omega)]
theorem mapsC_put (n : Nat) (f : MpF) (bs u : Nat) (hu : u < 512) (s : Sl) : putAt (mapsC n f bs).toArray (1 + u * 34) (slC s) = (mapsC n (upd f u s) bs).toArray := by
  obtain ⟨A, B, hA, hB⟩ := oneC_cut f u hu
  have h0 := hB (f u)
  rw [upd_self] at h0
  have hl : A.length + (34 + B.length) = 17408 := by
    have := congrArg List.length h0
    simp only [oneC_len, List.length_append, slC_len] at this
    omega
  rw [putAt_list _ _ _ (by simp only [List.size_toArray, mapsC_len, slC_len]; omega)]
  refine congrArg List.toArray ?_
  unfold mapsC
  rw [h0, hB s]
  have e1 : ((.int .i64 (n : Int) :: (A ++ (slC (f u) ++ B) ++ [.map (some bs)])) : List Value) = (.int .i64 (n : Int) :: A) ++ (slC (f u) ++ (B ++ [.map (some bs)])) := by simp
  have e2 : (.int .i64 (n : Int) :: A : List Value).length = 1 + u * 34 := by simp [hA]; omega
  rw [toArr, e1, List.take_left' e2, ← List.drop_drop, List.drop_left' e2, List.drop_left' (by rw [slC_len, slC_len])]
  simp
theorem mapsC_over (n : Nat) (f g : MpF) (bs : Nat) : putAt (mapsC n f bs).toArray 1 (oneC g) = (mapsC n g bs).toArray := by
  rw [putAt_list _ _ _ (by simp only [List.size_toArray, mapsC_len, oneC_len]; omega)]
  refine congrArg List.toArray ?_
  unfold mapsC
  rw [toArr, Nat.add_comm, List.drop_succ_cons, oneC_len, ← oneC_len f, List.drop_left]
  simp
theorem mapsC_snaps (n : Nat) (f : MpF) (bs : Nat) : (mapsC n f bs).toArray[17409]? = some (.map (some bs)) := by
  rw [List.getElem?_toArray]
  unfold mapsC
  rw [List.getElem?_cons_succ, List.getElem?_append_right (by rw [oneC_len]; omega), oneC_len]
  rfl
theorem mapsC_n (n : Nat) (f : MpF) (bs : Nat) : (mapsC n f bs).toArray[0]? = some (.int .i64 (n : Int)) := rfl
theorem slC_off (s : Sl) : (slC s)[32]? = some (.int .i64 s.off) := by
  unfold slC
  rw [List.getElem?_append_right (by rw [keyL_len]; omega), keyL_len]
  rfl
theorem slC_mask (s : Sl) : (slC s)[33]? = some (.int .i64 s.mask) := by
  unfold slC
  rw [List.getElem?_append_right (by rw [keyL_len]; omega), keyL_len]
  rfl
theorem mapsC_cell (n : Nat) (f : MpF) (bs u j : Nat) (hu : u < 512) (hj : j < 34) : (mapsC n f bs).toArray[1 + u * 34 + j]? = (slC (f u))[j]? := by
  rw [List.getElem?_toArray, ← mapsC_part n f bs u hu, List.getElem?_take_of_lt hj, List.getElem?_drop]
theorem oneC_cell (f : MpF) (u j : Nat) (hu : u < 512) (hj : j < 34) : (oneC f).toArray[u * 34 + j]? = (slC (f u))[j]? := by
  rw [List.getElem?_toArray, ← oneC_part f u hu, List.getElem?_take_of_lt hj, List.getElem?_drop]

/-- The maps in memory: M: each snapshot's number, its block, what it holds. -/
abbrev SnM := List (Int × (Nat × MpF))
def kvI (n : Int) : Value := .int .i64 n
def klI (n : Int) : Lit := .int .i64 n
def veP (p : Nat × MpF) : Value := .pointer (some ⟨p.1, 0, none⟩)
structure MapsIs (w : World) (mi bs n : Nat) (f : MpF) (M : SnM) : Prop where
  blk : Blk w mi 123 (mapsC n f bs).toArray
  map : MapIs Tryz.prog 3 kvI klI veP w bs M
  each : ∀ p ∈ M, Blk w p.2.1 121 (oneC p.2.2).toArray
  low : 1 ≤ n
  high : n ≤ 512
section
variable {w w' : World} {mi bs n : Nat} {f : MpF} {M : SnM}
theorem MapIs.obj {α β : Type} [DecidableEq α] {P : Program} {k : TypeId} {kv : α → Value} {kl : α → Lit} {ve : β → Value} {w : World} {b : Nat} {M : List (α × β)} (h : MapIs P k kv kl ve w b M) : ∃ es c, w.heap[b]? = some (.map es c) := by
  obtain ⟨es, ⟨es', clock, hb, _⟩, _⟩ := h
  exact ⟨_, _, hb⟩
theorem blk_ne_map {α β : Type} [DecidableEq α] {P : Program} {k : TypeId} {kv : α → Value} {kl : α → Lit} {ve : β → Value} {w : World} {b g : Nat} {t : TypeId} {cs : Array Value} {M : List (α × β)} (h : MapIs P k kv kl ve w b M) (hb : Blk w g t cs) : g ≠ b := by
  obtain ⟨es, c, e⟩ := h.obj
  rintro rfl
  unfold Blk at hb
  rw [e] at hb
  cases hb
theorem blk_ne_ty {w : World} {g g' : Nat} {t t' : TypeId} {cs cs' : Array Value} (h : Blk w g t cs) (h' : Blk w g' t' cs') (ht : t ≠ t') : g ≠ g' := by
  rintro rfl
  unfold Blk at h h'
  rw [h] at h'
  injection h' with h'
  injection h' with _ h'
  exact ht h'
theorem MapsIs.tch {T : List Nat} (h : MapsIs w mi bs n f M) (hb : Tch T w w') (h1 : mi ∉ T) (h2 : bs ∉ T) (h3 : ∀ p ∈ M, p.2.1 ∉ T) : MapsIs w' mi bs n f M :=
  ⟨h.blk.tch hb h1, h.map.tch hb h2, fun p hp => (h.each p hp).tch hb (h3 p hp), h.low, h.high⟩
theorem MapsIs.below (h : MapsIs w mi bs n f M) (hb : Below w.heap.size w w') : MapsIs w' mi bs n f M := h.tch (T := []) (Tch.below hb) (by simp) (by simp) (by simp)
theorem MapsIs.grown (h : MapsIs w mi bs n f M) (hg : w.grownBy w' none) : MapsIs w' mi bs n f M := h.tch (T := []) (Tch.grown hg (by simp)) (by simp) (by simp) (by simp)
theorem MapsIs.n_cell (h : MapsIs w mi bs n f M) : w.cell? ⟨mi, 0, none⟩ = some (.int .i64 (n : Int)) := h.blk.cell (mapsC_n n f bs)
theorem MapsIs.s_cell (h : MapsIs w mi bs n f M) : w.cell? ⟨mi, 17409, none⟩ = some (.map (some bs)) := h.blk.cell (mapsC_snaps n f bs)
end
theorem klI_inj {β : Type} {M : List (Int × β)} (x : Int) : ∀ p ∈ M, klI p.1 = klI x → p.1 = x := fun p _ h => by unfold klI at h; injection h
theorem keyOf_kvI {n : Int} (h : -9223372036854775808 ≤ n ∧ n ≤ 9223372036854775807) : keyOf Tryz.prog 3 (kvI n) = some (klI n) := keyOf_i64 h
theorem known_any {w : World} {mi bs n : Nat} {f : MpF} {M : SnM} (h : MapsIs w mi bs n f M) : Calls Tryz.prog 96 #[.pointer (some ⟨mi, 0, none⟩)] w fun e w' => e = .returned (.bool true) ∧ w = w' := by
  have c0 := h.n_cell
  have hn : 0 < n := h.low
  clear h
  go_enter Tryz.func96, Tryz.ntmps96
  go_wp2
  go_ret
  exact ⟨rfl, rfl⟩
/-- The map of a number. -/
def ofS (f : MpF) (M : SnM) (snap : Int) : Option MpF := if snap = 0 then some f else (aget M snap).map (·.2)
def ofP (mi : Nat) (M : SnM) (snap : Int) : Value := if snap = 0 then .pointer (some ⟨mi, 1, none⟩) else ((aget M snap).map veP).getD (.pointer none)
theorem of_any {w : World} {mi bs n : Nat} {f : MpF} {M : SnM} (h : MapsIs w mi bs n f M) (snap : Int) (hs : -9223372036854775808 ≤ snap ∧ snap ≤ 9223372036854775807) : Calls Tryz.prog 97 #[.pointer (some ⟨mi, 0, none⟩), .int .i64 snap] w fun e w' => e = .returned (ofP mi M snap) ∧ w = w' := by
  have c0 := h.s_cell
  have H := Lib.hid h.map
  clear h
  by_cases h0 : snap = 0
  · subst h0
    go_enter Tryz.func97, Tryz.ntmps97
    go_wp2
    go_ret
    exact ⟨rfl, rfl⟩
  · have e0 : (snap == 0) = false := beq_eq_false_iff_ne.2 h0
    have eP : ofP mi M snap = ((aget M snap).map veP).getD (.pointer none) := by unfold ofP; rw [if_neg h0]
    have EP := Lib.hid eP
    clear eP
    generalize ofP mi M snap = R at *
    go_enter Tryz.func97, Tryz.ntmps97
    go_wp2_with ((with_reducible show wpList _ _ _ (_ :: _) _ _); refine wpl_mlook rfl 118 (.tmp 13) (.tmp 14) rfl keyed_int Tryz.underlying118 H.out rfl snap rfl (Tryz.zeroValue119) (klI_inj snap) (keyOf_kvI hs) ?_)
    go_ret
    rw [EP.out]
    exact ⟨rfl, rfl⟩
end Go.Proofs.YtgjjdfhoakailaaGreat
