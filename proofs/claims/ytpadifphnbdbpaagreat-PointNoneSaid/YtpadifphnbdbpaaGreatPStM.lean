/-
  what this claim needs of: StM, StR (written by cut.py).
-/
import Derived.Test.YtpadifphnbdbpaaGreatPStMapG
import Derived.KernelRfl
import Derived.Great.BuildSlice
namespace Go.Proofs.YtpadifphnbdbpaaGreat
open Go.RowKit Go.Maps
set_option linter.unusedVariables false
set_option linter.unusedSimpArgs false

theorem fm_len {f : Nat → List Value} {sz : Nat} (h : ∀ u, (f u).length = sz) (m : Nat) : ((List.range m).flatMap f).length = m * sz := by
  induction m with
  | zero => simp
  | succ m ih => rw [List.range_succ, List.flatMap_append, List.length_append, ih, List.flatMap_cons, List.flatMap_nil, List.append_nil, h, Nat.succ_mul]
theorem fm_cut {f : Nat → List Value} {sz : Nat} (h : ∀ u, (f u).length = sz) (m u : Nat) (hu : u < m) : ∃ A B, A.length = u * sz ∧ ∀ g : Nat → List Value, (∀ v, v ≠ u → g v = f v) → (List.range m).flatMap g = A ++ (g u ++ B) := by
  induction m with
  | zero => omega
  | succ m ih =>
    rcases Nat.lt_or_ge u m with h1 | h1
    · obtain ⟨A, B, hA, hB⟩ := ih h1
      refine ⟨A, B ++ f m, hA, fun g hg => ?_⟩
      rw [List.range_succ, List.flatMap_append, hB g hg, List.flatMap_cons, List.flatMap_nil, List.append_nil, hg m (by omega)]
      simp
    · have e : u = m := by omega
      subst e
      refine ⟨(List.range u).flatMap f, [], fm_len h u, fun g hg => ?_⟩
      rw [List.range_succ, List.flatMap_append, List.flatMap_cons, List.flatMap_nil, List.append_nil]
      congr 1
      rw [List.flatMap_def, List.flatMap_def]
      congr 1
      apply List.map_congr_left
      intro v hv
      exact hg v (by have := List.mem_range.1 hv; omega)
abbrev MpF := Nat → Sl
def upd (f : MpF) (u : Nat) (s : Sl) : MpF := fun v => if v = u then s else f v
def oneC (f : MpF) : List Value := (List.range 512).flatMap (fun u => slC (f u))
def mapsC (n : Nat) (f : MpF) (bs : Nat) : List Value := .int .i64 (n : Int) :: (oneC f ++ [.map (some bs)])
theorem toArr (l : List Value) : l.toArray.toList = l := by simp
theorem oneC_len (f : MpF) : (oneC f).length = 17408 := fm_len (sz := 34) (fun u => slC_len _) 512
theorem oneC_cut (f : MpF) (u : Nat) (hu : u < 512) : ∃ A B, A.length = u * 34 ∧ ∀ s, oneC (upd f u s) = A ++ (slC s ++ B) := by
  obtain ⟨A, B, hA, hB⟩ := fm_cut (f := fun u => slC (f u)) (sz := 34) (fun u => slC_len _) 512 u hu
  refine ⟨A, B, hA, fun s => ?_⟩
  have := hB (fun v => slC (upd f u s v)) (fun v hv => by simp [upd, hv])
  unfold oneC
  rw [this]
  simp [upd]
theorem upd_self (f : MpF) (u : Nat) : upd f u (f u) = f := by
  funext v
  unfold upd
  split
  · rename_i h; rw [h]
  · rfl
theorem oneC_part (f : MpF) (u : Nat) (hu : u < 512) : ((oneC f).drop (u * 34)).take 34 = slC (f u) := by
  obtain ⟨A, B, hA, hB⟩ := oneC_cut f u hu
  have := hB (f u)
  rw [upd_self] at this
  rw [this, ← hA, List.drop_left, List.take_append_of_le_length (by rw [slC_len]; exact Nat.le_refl _), List.take_of_length_le (by rw [slC_len]; exact Nat.le_refl _)]
theorem mapsC_part (n : Nat) (f : MpF) (bs u : Nat) (hu : u < 512) : ((mapsC n f bs).drop (1 + u * 34)).take 34 = slC (f u) := by
  unfold mapsC
  rw [Nat.add_comm, List.drop_succ_cons, List.drop_append_of_le_length (by rw [oneC_len]; omega), List.take_append_of_le_length (by rw [List.length_drop, oneC_len]; omega), oneC_part f u hu]
theorem mapsC_one (n : Nat) (f : MpF) (bs : Nat) : ((mapsC n f bs).drop 1).take 17408 = oneC f := by
  unfold mapsC
  rw [List.drop_succ_cons, List.drop_zero, List.take_append_of_le_length (by rw [oneC_len]; omega), List.take_of_length_le (by rw [oneC_len]; omega)]
theorem mapsC_snaps (n : Nat) (f : MpF) (bs : Nat) : (mapsC n f bs).toArray[17409]? = some (.map (some bs)) := by
  rw [List.getElem?_toArray]
  unfold mapsC
  rw [List.getElem?_cons_succ, List.getElem?_append_right (by rw [oneC_len]; omega), oneC_len]
  rfl
theorem mapsC_n (n : Nat) (f : MpF) (bs : Nat) : (mapsC n f bs).toArray[0]? = some (.int .i64 (n : Int)) := rfl
theorem slC_mask (s : Sl) : (slC s)[33]? = some (.int .i64 s.mask) := by
  unfold slC
  rw [List.getElem?_append_right (by rw [keyL_len]; omega), keyL_len]
  rfl
theorem oneC_cell (f : MpF) (u j : Nat) (hu : u < 512) (hj : j < 34) : (oneC f).toArray[u * 34 + j]? = (slC (f u))[j]? := by
  rw [List.getElem?_toArray, ← oneC_part f u hu, List.getElem?_take_of_lt hj, List.getElem?_drop]

/-- The maps in memory: M: each snapshot's number, its block, what it holds. -/
abbrev SnM := List (Int × (Nat × MpF))
def kvI (n : Int) : Value := .int .i64 n
def klI (n : Int) : Lit := .int .i64 n
def veP (p : Nat × MpF) : Value := .pointer (some ⟨p.1, 0, none⟩)
structure MapsIs (w : World) (mi bs n : Nat) (f : MpF) (M : SnM) : Prop where
  blk : Blk w mi 96 (mapsC n f bs).toArray
  map : MapIs Tryz.prog 3 kvI klI veP w bs M
  each : ∀ p ∈ M, Blk w p.2.1 94 (oneC p.2.2).toArray
  low : 1 ≤ n
  high : n ≤ 512
section
variable {w w' : World} {mi bs n : Nat} {f : MpF} {M : SnM}
theorem MapIs.obj {α β : Type} [DecidableEq α] {P : Program} {k : TypeId} {kv : α → Value} {kl : α → Lit} {ve : β → Value} {w : World} {b : Nat} {M : List (α × β)} (h : MapIs P k kv kl ve w b M) : ∃ es c, w.heap[b]? = some (.map es c) := by
  obtain ⟨es, ⟨es', clock, hb, _⟩, _⟩ := h
  exact ⟨_, _, hb⟩
theorem blk_ne_map {α β : Type} [DecidableEq α] {P : Program} {k : TypeId} {kv : α → Value} {kl : α → Lit} {ve : β → Value} {w : World} {b g : Nat} {t : TypeId} {cs : Array Value} {M : List (α × β)} (h : MapIs P k kv kl ve w b M) (hb : Blk w g t cs) : g ≠ b := by
  obtain ⟨es, c, e⟩ := h.obj
  rintro rfl
  unfold Blk at hb
  rw [e] at hb
  cases hb
theorem blk_ne_ty {w : World} {g g' : Nat} {t t' : TypeId} {cs cs' : Array Value} (h : Blk w g t cs) (h' : Blk w g' t' cs') (ht : t ≠ t') : g ≠ g' := by
  rintro rfl
  unfold Blk at h h'
  rw [h] at h'
  injection h' with h'
  injection h' with _ h'
  exact ht h'
theorem MapsIs.tch {T : List Nat} (h : MapsIs w mi bs n f M) (hb : Tch T w w') (h1 : mi ∉ T) (h2 : bs ∉ T) (h3 : ∀ p ∈ M, p.2.1 ∉ T) : MapsIs w' mi bs n f M :=
  ⟨h.blk.tch hb h1, h.map.tch hb h2, fun p hp => (h.each p hp).tch hb (h3 p hp), h.low, h.high⟩
theorem MapsIs.below (h : MapsIs w mi bs n f M) (hb : Below w.heap.size w w') : MapsIs w' mi bs n f M := h.tch (T := []) (Tch.below hb) (by simp) (by simp) (by simp)
theorem MapsIs.grown (h : MapsIs w mi bs n f M) (hg : w.grownBy w' none) : MapsIs w' mi bs n f M := h.tch (T := []) (Tch.grown hg (by simp)) (by simp) (by simp) (by simp)
theorem MapsIs.n_cell (h : MapsIs w mi bs n f M) : w.cell? ⟨mi, 0, none⟩ = some (.int .i64 (n : Int)) := h.blk.cell (mapsC_n n f bs)
theorem MapsIs.s_cell (h : MapsIs w mi bs n f M) : w.cell? ⟨mi, 17409, none⟩ = some (.map (some bs)) := h.blk.cell (mapsC_snaps n f bs)
end
theorem klI_inj {β : Type} {M : List (Int × β)} (x : Int) : ∀ p ∈ M, klI p.1 = klI x → p.1 = x := fun p _ h => by unfold klI at h; injection h
theorem keyOf_kvI {n : Int} (h : -9223372036854775808 ≤ n ∧ n ≤ 9223372036854775807) : keyOf Tryz.prog 3 (kvI n) = some (klI n) := keyOf_i64 h
theorem known_any {w : World} {mi bs n : Nat} {f : MpF} {M : SnM} (h : MapsIs w mi bs n f M) : Calls Tryz.prog 86 #[.pointer (some ⟨mi, 0, none⟩)] w fun e w' => e = .returned (.bool true) ∧ w = w' := by
  have c0 := h.n_cell
  have hn : 0 < n := h.low
  clear h
  go_enter Tryz.func86, Tryz.ntmps86
  go_wp2
  go_ret
  exact ⟨rfl, rfl⟩
/-- The map of a number. -/
def ofS (f : MpF) (M : SnM) (snap : Int) : Option MpF := if snap = 0 then some f else (aget M snap).map (·.2)
def ofP (mi : Nat) (M : SnM) (snap : Int) : Value := if snap = 0 then .pointer (some ⟨mi, 1, none⟩) else ((aget M snap).map veP).getD (.pointer none)
theorem of_any {w : World} {mi bs n : Nat} {f : MpF} {M : SnM} (h : MapsIs w mi bs n f M) (snap : Int) (hs : -9223372036854775808 ≤ snap ∧ snap ≤ 9223372036854775807) : Calls Tryz.prog 88 #[.pointer (some ⟨mi, 0, none⟩), .int .i64 snap] w fun e w' => e = .returned (ofP mi M snap) ∧ w = w' := by
  have c0 := h.s_cell
  have H := Lib.hid h.map
  clear h
  by_cases h0 : snap = 0
  · subst h0
    go_enter Tryz.func88, Tryz.ntmps88
    go_wp2
    go_ret
    exact ⟨rfl, rfl⟩
  · have e0 : (snap == 0) = false := beq_eq_false_iff_ne.2 h0
    have eP : ofP mi M snap = ((aget M snap).map veP).getD (.pointer none) := by unfold ofP; rw [if_neg h0]
    have EP := Lib.hid eP
    clear eP
    generalize ofP mi M snap = R at *
    go_enter Tryz.func88, Tryz.ntmps88
    go_wp2_with ((with_reducible show wpList _ _ _ (_ :: _) _ _); refine wpl_mlook rfl 88 (.tmp 13) (.tmp 14) rfl keyed_int Tryz.underlying88 H.out rfl snap rfl (Tryz.zeroValue173) (klI_inj snap) (keyOf_kvI hs) ?_)
    go_ret
    rw [EP.out]
    exact ⟨rfl, rfl⟩
end Go.Proofs.YtpadifphnbdbpaaGreat
namespace Go.Proofs.YtpadifphnbdbpaaGreat
open Go.RowKit Go.Maps
set_option linter.unusedVariables false
set_option linter.unusedSimpArgs false

section
variable {P : Program} {w : World} {ops : Array Oper} {rest : List Oper} {o : Oper} {a : Act} {Q : Exit → Act → World → Prop}
theorem wpl_mk (hg : o.guard = none) (t : TypeId) (parts : Array (Nat × Operand)) (ho : o.op = .build t parts) (vals : List (Nat × Value)) (hl : parts.toList.map (fun x => (x.1, a.eval x.2)) = vals) (cs : Array Value) (hf : P.built t vals = some cs)
    (h : wpList P ops Q rest (a.put o.dst (.agg cs)) w) : wpList P ops Q (o :: rest) a w := by
  have hf' : P.built t (parts.map fun (i, x) => (i, a.eval x)).toList = some cs := by
    rw [Array.toList_map]
    rw [← hl] at hf
    exact hf
  refine wpList_build hg t parts ho (by rw [hf']; rfl) ?_
  rw [hf']
  exact h
end
theorem infoSl : (Tryz.prog.info? 92).map (·.size) = some 34 := by kernel_rfl
theorem ofP_some {w : World} {mi bs n : Nat} {f : MpF} {M : SnM} (h : MapsIs w mi bs n f M) {snap : Int} {g : MpF} (hg : ofS f M snap = some g) :
    ∃ b off, ofP mi M snap = .pointer (some ⟨b, off, none⟩) ∧ b < w.heap.size ∧ ∀ u, u < 512 → w.rangeAt b (off + u * 34) (slC (g u)) := by
  unfold ofS at hg
  unfold ofP
  split at hg
  · rename_i h0
    rw [if_pos h0]
    injection hg with hg
    subst hg
    exact ⟨mi, 1, rfl, h.blk.lt, fun u hu => h.blk.part _ _ (by rw [slC_len]; exact mapsC_part n f bs u hu)⟩
  · rename_i h0
    rw [if_neg h0]
    cases hq : aget M snap with
    | none => rw [hq] at hg; cases hg
    | some p =>
      rw [hq] at hg
      injection hg with hg
      subst hg
      have hb := h.each _ (aget_mem hq)
      exact ⟨p.1, 0, rfl, hb.lt, fun u hu => by rw [Nat.zero_add]; exact hb.part _ _ (by rw [slC_len]; exact oneC_part p.2 u hu)⟩
end Go.Proofs.YtpadifphnbdbpaaGreat
namespace Go.Proofs.YtpadifphnbdbpaaGreat
open Go.RowKit Go.Maps
set_option linter.unusedVariables false
set_option linter.unusedSimpArgs false

def zF : MpF := fun _ => zSl
def cellAt (j : Nat) : Value := if j = 0 then .int .i64 0 else if j = 17409 then .map none else if (j - 1) % 34 < 32 then .int .u8 0 else .int .i64 0
def eqv : Value → Value → Bool
  | .int .i64 0, .int .i64 0 => true
  | .int .u8 0, .int .u8 0 => true
  | .map none, .map none => true
  | _, _ => false
theorem eqv_eq {x y : Value} (h : eqv x y = true) : x = y := by
  unfold eqv at h
  split at h
  · rfl
  · rfl
  · rfl
  · cases h
def chkAt (n : Nat) : List Value → Nat → Bool
  | [], j => Nat.beq j n
  | v :: r, j => match eqv v (cellAt j) with | true => chkAt n r (Nat.succ j) | false => false
theorem chkAt_get {n : Nat} : ∀ (l : List Value) (j : Nat), chkAt n l j = true → j + l.length = n ∧ ∀ i, i < l.length → l[i]? = some (cellAt (j + i))
  | [], j, h => ⟨by simpa using Nat.eq_of_beq_eq_true h, fun i hi => by simp at hi⟩
  | v :: r, j, h => by
    unfold chkAt at h
    split at h
    · rename_i hv
      obtain ⟨h1, h2⟩ := chkAt_get r (Nat.succ j) h
      refine ⟨by rw [List.length_cons]; omega, fun i hi => ?_⟩
      rcases i with _ | i
      · rw [eqv_eq hv]; rfl
      · rw [List.getElem?_cons_succ, h2 i (by simpa using hi)]
        congr 2
        omega
    · cases h
theorem chk_maps : chkAt 17410 Tryz.zeroCells96.toList 0 = true := by kernel_rfl
theorem zSl_cell (r : Nat) (hr : r < 34) : (slC zSl)[r]? = some (if r < 32 then .int .u8 0 else .int .i64 0) := by
  unfold slC
  rcases Nat.lt_or_ge r 32 with h | h
  · rw [List.getElem?_append_left (by rw [keyL_len]; exact h), if_pos h]
    show (List.map (Value.int .u8) (List.replicate 32 0))[r]? = _
    rw [List.map_replicate, List.getElem?_replicate, if_pos h]
  · rw [List.getElem?_append_right (by rw [keyL_len]; exact h), keyL_len, if_neg (by omega)]
    rcases (by omega : r = 32 ∨ r = 33) with rfl | rfl <;> rfl
theorem zero_maps : Tryz.zeroCells96 = (.int .i64 0 :: (oneC zF ++ [.map none]) : List Value).toArray := by
  obtain ⟨h1, h2⟩ := chkAt_get _ _ chk_maps
  apply Array.ext'
  rw [toArr]
  apply List.ext_getElem?
  intro j
  rcases Nat.lt_or_ge j 17410 with hj | hj
  · rw [h2 j (by omega), Nat.zero_add]
    unfold cellAt
    rcases j with _ | j
    · rfl
    · rw [if_neg (by omega), List.getElem?_cons_succ]
      rcases Nat.lt_or_ge j 17408 with hj2 | hj2
      · rw [if_neg (by omega), List.getElem?_append_left (by rw [oneC_len]; exact hj2)]
        have hc := oneC_cell zF (j / 34) (j % 34) (by omega) (by omega)
        rw [List.getElem?_toArray, show j / 34 * 34 + j % 34 = j by omega] at hc
        rw [hc]
        show _ = (slC zSl)[j % 34]?
        rw [zSl_cell _ (by omega), Nat.add_sub_cancel]
      · have : j = 17408 := by omega
        subst this
        rw [if_pos rfl, List.getElem?_append_right (by rw [oneC_len]; exact Nat.le_refl _), oneC_len]
        rfl
  · rw [List.getElem?_eq_none (by omega), List.getElem?_eq_none (by simp [oneC_len]; omega)]
theorem built_maps (n : Int) (m : Value) (hm : m.cells.toList = [m]) : Tryz.prog.built 96 [(0, .int .i64 n), (2, m)] = some (.int .i64 n :: (oneC zF ++ [m]) : List Value).toArray := by
  have e : Tryz.prog.built 96 [(0, .int .i64 n), (2, m)] = Instr.fill ([(0, 1), (1, 17408), (17409, 1)].toArray[·]?) Tryz.zeroCells96 [(0, .int .i64 n), (2, m)] := by kernel_rfl
  rw [e, zero_maps, fill_cons 0 [.int .i64 n] rfl rfl (by simp), fill_cons 17409 [m] hm rfl (by rw [size_putAt]; simp [oneC_len])]
  unfold Instr.fill
  refine congrArg some ?_
  rw [putAt_list _ _ _ (by rw [size_putAt]; simp [oneC_len])]
  refine congrArg List.toArray ?_
  rw [putAt_list _ _ _ (by simp), toArr, toArr]
  simp only [List.take_zero, List.nil_append, List.length_singleton, Nat.zero_add, List.cons_append]
  rw [List.drop_succ_cons, List.drop_zero, List.take_succ_cons, List.drop_succ_cons, List.take_left' (oneC_len _), List.drop_eq_nil_of_le (by simp [oneC_len])]
  simp
def NewSome (n : Nat) (w : World) (e : Ending) (w' : World) : Prop := ∃ mi bs, e = .returned (.pointer (some ⟨mi, 0, none⟩)) ∧ MapsIs w' mi bs n zF [] ∧ w.heap.size ≤ mi ∧ w.heap.size ≤ bs ∧ Below w.heap.size w w'
theorem maps_new (k : Nat) (hk : 1 ≤ k ∧ k ≤ 512) (w : World) : Calls Tryz.prog 18 #[.int .i64 (k : Int)] w (NewSome k w) := by
  have g1 : ¬ (k : Int) < 1 := by omega
  have g2 : ¬ 512 < (k : Int) := by omega
  have HK := Lib.hid hk
  clear hk
  have hmm := @run_makeMap Tryz.prog
  go_enter Tryz.func18, Tryz.ntmps18
  go_wp2_with (first
    | ((with_reducible show wpList _ _ _ (_ :: _) _ _); refine wpl_mk rfl 96 #[(0, .tmp 9), (2, .tmp 10)] rfl [(0, .int .i64 (k : Int)), (2, .map (some w.heap.size))] rfl _ (built_maps _ _ rfl) ?_)
    | ((with_reducible show wpList _ _ _ (_ :: _) _ _); refine wpl_box rfl 96 (.tmp 11) rfl _ rfl ?_; intro w1 hk hg hz; have K := Lib.hid hk; have G := Lib.hid hg; clear hk hg hz))
  go_ret
  refine ⟨w.heap.size + 1, w.heap.size, rfl, ⟨?_, ?_, fun p hp => by simp at hp, HK.out.1, HK.out.2⟩, Nat.le_succ _, Nat.le_refl _, ?_⟩
  · have := K.out
    rw [show (w.alloc (Obj.map #[] 0)).heap.size = w.heap.size + 1 by simp] at this
    exact this
  · exact (MapIs.made w _ _ _ _ _).kept G.out (by simp)
  · exact bl_n ((Below.refl _ _).alloc (Nat.le_refl _) _) G.out
end Go.Proofs.YtpadifphnbdbpaaGreat
namespace Go.Proofs.YtpadifphnbdbpaaGreat
open Go.RowKit Go.Maps
set_option linter.unusedVariables false
set_option linter.unusedSimpArgs false

theorem slC_info (s : Sl) : (Tryz.prog.info? 92).map (·.size) = some (slC s).length := by rw [slC_len]; exact infoSl
theorem keyL_info (K : Key) : (Tryz.prog.info? 90).map (·.size) = some (keyL K).length := by rw [keyL_len]; kernel_rfl
end Go.Proofs.YtpadifphnbdbpaaGreat
namespace Go.Proofs.YtpadifphnbdbpaaGreat
open Go.RowKit Go.Maps
set_option linter.unusedVariables false
set_option linter.unusedSimpArgs false

end Go.Proofs.YtpadifphnbdbpaaGreat
namespace Go.Proofs.YtpadifphnbdbpaaGreat
open Go.RowKit Go.Maps
set_option linter.unusedVariables false
set_option linter.unusedSimpArgs false

end Go.Proofs.YtpadifphnbdbpaaGreat
namespace Go.Proofs.YtpadifphnbdbpaaGreat
open Go.RowKit Go.Maps
set_option linter.unusedVariables false
set_option linter.unusedSimpArgs false

theorem own_keptR {w w' : World} {base n sz : Nat} {e : TypeId} {v : Value} {xs : List Value} {r : Option Nat} (h : w.ownsRow base e sz v n xs) (hg : w.grownBy w' r) (ha : ∀ b, r = some b → v.ownBlock ≠ some b) : w'.ownsRow base e sz v n xs :=
  h.kept hg (by
    cases r with
    | none => cases hv : v.ownBlock <;> simp
    | some b => exact .inr (ha b rfl))
theorem own_belowR {w w' : World} {base n sz : Nat} {e : TypeId} {v : Value} {xs : List Value} (h : w.ownsRow base e sz v n xs) (hb : Below w.heap.size w w') : w'.ownsRow base e sz v n xs := by
  refine ⟨h.1, h.2.imp id ?_⟩
  rintro ⟨g, cap, cur, e1, a1, a2, r⟩
  have h3 : Blk w g e cur := a2
  exact ⟨g, cap, cur, e1, a1, h3.below hb h3.lt, r⟩
theorem own_loR {w : World} {base base' : Nat} {e : TypeId} {size n : Nat} {v : Value} {xs : List Value} (h : w.ownsRow base' e size v n xs) (hb : base ≤ base') : w.ownsRow base e size v n xs := by
  refine ⟨h.1, h.2.imp id ?_⟩
  rintro ⟨g, cap, cur, e1, a1, r⟩
  exact ⟨g, cap, cur, e1, Nat.le_trans hb a1, r⟩
/-- An owned row's block is no block of another type, and no map. -/
theorem own_apartI {w : World} {base base' n n' sz sz' : Nat} {e e' : TypeId} {v v' : Value} {xs xs' : List Value} (h : w.ownsRow base e sz v n xs) (h' : w.ownsRow base' e' sz' v' n' xs') (hne : e ≠ e') : ∀ b, v'.ownBlock = some b → v.ownBlock ≠ some b := by
  intro b hb hv
  rcases h.2 with ⟨rfl, _⟩ | ⟨g, cap, cur, rfl, _, h1, _⟩
  · cases hv
  · rcases h'.2 with ⟨rfl, _⟩ | ⟨g', cap', cur', rfl, _, h1', _⟩
    · cases hb
    · injection hv with hv
      injection hb with hb
      simp only at hv hb
      subst hv hb
      rw [h1] at h1'
      injection h1' with h1'
      injection h1' with _ h1'
      exact hne h1'
theorem own_blk {w : World} {base n sz g : Nat} {e t : TypeId} {v : Value} {xs : List Value} {cs : Array Value} (h : w.ownsRow base e sz v n xs) (h' : Blk w g t cs) (hne : e ≠ t) : v.ownBlock ≠ some g := by
  intro hv
  rcases h.2 with ⟨rfl, _⟩ | ⟨g', cap, cur, rfl, _, h1, _⟩
  · cases hv
  · injection hv with hv
    simp only at hv
    subst hv
    unfold Blk at h'
    rw [h1] at h'
    injection h' with h'
    injection h' with _ h'
    exact hne h'
theorem own_at {w : World} {base n sz : Nat} {e : TypeId} {v : Value} {xs : List Value} (h : w.ownsRow base e sz v n xs) : ∀ b, v.ownBlock = some b → base ≤ b ∧ b < w.heap.size := by
  intro b hv
  rcases h.2 with ⟨rfl, _⟩ | ⟨g', cap, cur, rfl, h0, h1, _⟩
  · cases hv
  · injection hv with hv
    simp only at hv
    subst hv
    exact ⟨h0, Blk.lt (t := e) (cs := cur) h1⟩
section
variable {P : Program} {w : World} {ops : Array Oper} {rest : List Oper} {o : Oper} {a : Act} {Q : Exit → Act → World → Prop}
/-- A slice literal of one element. -/
theorem wpl_lit1 (hg : o.guard = none) (t e : TypeId) (x : Operand) (hop : o.op = .buildSlice t 1 #[(0, x)]) (vs : List Value) (hx : a.eval x = .agg vs.toArray) (hu : P.underlying t = some (.slice e)) {z : Value} {bytes : Nat}
    (hi : (P.info? e).map (fun i => (i.zero, i.size, i.bytes)) = some (some z, vs.length, bytes)) (hz : z.cells.size = vs.length) (hpos : 0 < vs.length) (hsm : vs.length ≤ 1000000)
    (hK : ∀ w1, Blk w1 w.heap.size e vs.toArray → w.grownBy w1 none → w1.heap.size = w.heap.size + 1 → wpList P ops Q rest (a.put o.dst (.slice (some ⟨w.heap.size, 0, none⟩) 1 1)) w1) : wpList P ops Q (o :: rest) a w := by
  obtain ⟨i0, hi', hz0, hz1, hz2⟩ := info_parts hi
  refine wpList_buildSlice hg t e 1 #[(0, x)] hop vs.toArray i0 z hu hi' hz0 (by rw [hz1]; omega) (by rw [hz1]; omega) ?_ (hK _ (Blk.made _ _ _) (World.grownBy_alloc w _ none) (by simp))
  rw [Array.toList_map]
  simp only [List.map_cons, List.map_nil]
  rw [hx, hz1, fill_cons 0 vs (by simp [Value.cells]) (by simp) (by simp)]
  unfold Instr.fill
  rw [putAt_all _ _ (by simp)]
end
/-- The address of an element of a slice. -/
theorem wpl_sidx {P : Program} {w : World} {ops : Array Oper} {rest : List Oper} {o : Oper} {a : Act} {Q : Exit → Act → World → Prop} (hg : o.guard = none) (t : TypeId) (x i : Operand) (hop : o.op = .indexAddr t x i) {e : TypeId} (hu : P.underlying t = some (.slice e)) {sz : Nat} (hz : ∀ u : World, (sizeOf e).run P u = .ok sz u)
    (b off n c j : Nat) (hx : a.eval x = .slice (some ⟨b, off, none⟩) n c) (hi : a.eval i = .int .i64 (j : Int)) (hj : j < n) (h : wpList P ops Q rest (a.put o.dst (.pointer (some ⟨b, off + j * sz, none⟩))) w) : wpList P ops Q (o :: rest) a w := by
  refine wpList_plain hg fun K hK => ?_
  unfold Oper.wp execOp
  have h1 : (0 : Int) ≤ (j : Int) ∧ (j : Int) < (n : Int) := by omega
  simp only [hop, hx, hi, Instr.indexAt, asIntOf, Sem.run_bind, Sem.run_pure, Result.andThen_ok, run_underlying hu, h1, and_self, if_true, hz, Int.toNat_natCast, Addr.add_mid]
  exact hK _ _ h
theorem info_It : (Tryz.prog.info? 135).map (fun i => (i.zero, i.size, i.bytes)) = some (some (.agg Tryz.zeroCells135), 73, 136) := by kernel_rfl
theorem zero_It_len : (Value.agg Tryz.zeroCells135).cells.size = 73 := by kernel_rfl
theorem itC_info (i : It) : (Tryz.prog.info? 135).map (·.size) = some (itC i).length := by rw [itC_len]; kernel_rfl
theorem it_has (i : It) : (Tryz.prog.info? 135).map (fun i => (i.zero, i.size, i.bytes)) = some (some (.agg Tryz.zeroCells135), (itC i).length, 136) := by rw [itC_len]; exact info_It
def itsC (l : List It) : List Value := l.flatMap itC
theorem itsC_one (l : List It) : ∀ v ∈ itsC l, v.oneCell' = true := by
  intro v hv
  obtain ⟨x, _, h⟩ := List.mem_flatMap.1 hv
  exact itC_one x v h
theorem itsC_append (l r : List It) : itsC (l ++ r) = itsC l ++ itsC r := by unfold itsC; rw [List.flatMap_append]
theorem itsC_single (i : It) : itsC [i] = itC i := by simp [itsC]
section
variable {w : World} {ops : Array Oper} {rest : List Oper} {o : Oper} {a : Act} {Q : Exit → Act → World → Prop}
theorem wpl_lit_it (hg : o.guard = none) (x : Operand) (hop : o.op = .buildSlice 46 1 #[(0, x)]) (i : It) (hx : a.eval x = .agg (itC i).toArray)
    (hK : ∀ w1, Blk w1 w.heap.size 135 (itC i).toArray → w.grownBy w1 none → w1.heap.size = w.heap.size + 1 → wpList Tryz.prog ops Q rest (a.put o.dst (.slice (some ⟨w.heap.size, 0, none⟩) 1 1)) w1) : wpList Tryz.prog ops Q (o :: rest) a w :=
  wpl_lit1 hg 46 135 x hop (itC i) hx Tryz.underlying46 (it_has i) (by rw [itC_len]; exact zero_It_len) (by rw [itC_len]; omega) (by rw [itC_len]; omega) hK
/-- append(out, x). -/
theorem wpl_app_it (hg : o.guard = none) (s x : Operand) (hop : o.op = .call { callee := .builtin .append, args := #[s, x], argTypes := #[46, 46] }) (base : Nat) (v : Value) (l : List It) (hs : a.eval s = v) (hown : w.ownsRow base 135 73 v l.length (itsC l))
    (g : Nat) (i : It) (hx : a.eval x = .slice (some ⟨g, 0, none⟩) 1 1) (hb : Blk w g 135 (itC i).toArray) (hn : l.length ≤ 1000000000) (hbase : base ≤ w.heap.size)
    (h : ∀ v' w1, w1.ownsRow base 135 73 v' (l ++ [i]).length (itsC (l ++ [i])) → w.grownBy w1 v.ownBlock → wpList Tryz.prog ops Q rest (a.put o.dst v') w1) : wpList Tryz.prog ops Q (o :: rest) a w := by
  refine app_src hg s x 46 hop base 135 _ 73 136 Tryz.underlying46 info_It zero_It_len (by omega) v l.length (itsC l) hs hown (.slice (some ⟨g, 0, none⟩) 1 1) 1 (itC i) hx ⟨_, 1, rfl, by rw [itC_len], fun _ => ⟨g, 0, rfl, hb.lt, fun j y hy => ?_⟩⟩ (itC_one i) (by omega) (by omega) hbase (fun v' w1 h1 h2 _ => h v' w1 ?_ h2)
  · rw [Nat.zero_add]
    exact hb.cell (by rw [List.getElem?_toArray]; exact hy)
  · rw [itsC_append, itsC_single, List.length_append]
    exact h1
/-- append(l, r...): the items of another row. -/
theorem wpl_app_its (hg : o.guard = none) (s x : Operand) (hop : o.op = .call { callee := .builtin .append, args := #[s, x], argTypes := #[46, 46] }) (base : Nat) (v : Value) (l : List It) (hs : a.eval s = v) (hown : w.ownsRow base 135 73 v l.length (itsC l))
    (u : Value) (r : List It) (hx : a.eval x = u) (hr : Src w 73 u r.length (itsC r)) (hn : l.length + r.length ≤ 1000000000) (hbase : base ≤ w.heap.size)
    (h : ∀ v' w1, w1.ownsRow base 135 73 v' (l ++ r).length (itsC (l ++ r)) → w.grownBy w1 v.ownBlock → wpList Tryz.prog ops Q rest (a.put o.dst v') w1) : wpList Tryz.prog ops Q (o :: rest) a w := by
  refine app_src hg s x 46 hop base 135 _ 73 136 Tryz.underlying46 info_It zero_It_len (by omega) v l.length (itsC l) hs hown u r.length (itsC r) hx hr (itsC_one r) (by omega) (by omega) hbase (fun v' w1 h1 h2 _ => h v' w1 ?_ h2)
  rw [itsC_append, List.length_append]
  exact h1
end
theorem built_it (l : List (Nat × Value)) : Tryz.prog.built 135 l = Instr.fill ([(0, 1), (1, 32), (33, 4), (37, 1), (38, 1), (39, 34)].toArray[·]?) (itC ⟨0, zKey, zPl, 0, 0, zSl⟩).toArray l := by kernel_rfl
theorem put_mid {l l' : List Value} (A B vs vs' : List Value) (o : Nat) (hl : l = A ++ (vs ++ B)) (hl' : l' = A ++ (vs' ++ B)) (ho : A.length = o) (hv : vs'.length = vs.length) : putAt l.toArray o vs' = l'.toArray := by
  subst ho hl hl'
  rw [putAt_list _ _ _ (by simp; omega), toArr]
  refine congrArg List.toArray ?_
  rw [List.take_left, List.drop_append, List.drop_eq_nil_of_le (by omega), hv]
  simp
theorem put_kind (i : It) (k : Int) : putAt (itC i).toArray 0 [.int .u8 k] = (itC { i with kind := k }).toArray :=
  put_mid [] (keyL i.key ++ (plC i.pl ++ (.int .i64 i.snap :: .int .i64 i.unit :: slC i.sl))) [.int .u8 i.kind] _ 0 rfl rfl rfl rfl
theorem put_key (i : It) (K : Key) : putAt (itC i).toArray 1 (keyL K) = (itC { i with key := K }).toArray :=
  put_mid [.int .u8 i.kind] (plC i.pl ++ (.int .i64 i.snap :: .int .i64 i.unit :: slC i.sl)) (keyL i.key) _ 1 rfl rfl rfl (by rw [keyL_len, keyL_len])
theorem put_pl (i : It) (p : Pl) : putAt (itC i).toArray 33 (plC p) = (itC { i with pl := p }).toArray :=
  put_mid (.int .u8 i.kind :: keyL i.key) (.int .i64 i.snap :: .int .i64 i.unit :: slC i.sl) (plC i.pl) _ 33 (by simp [itC]) (by simp [itC]) (by simp [keyL_len]) rfl
theorem put_snap (i : It) (s : Int) : putAt (itC i).toArray 37 [.int .i64 s] = (itC { i with snap := s }).toArray :=
  put_mid (.int .u8 i.kind :: (keyL i.key ++ plC i.pl)) (.int .i64 i.unit :: slC i.sl) [.int .i64 i.snap] _ 37 (by simp [itC]) (by simp [itC]) (by simp [keyL_len, plC_len]) rfl
theorem put_unit (i : It) (s : Int) : putAt (itC i).toArray 38 [.int .i64 s] = (itC { i with unit := s }).toArray :=
  put_mid (.int .u8 i.kind :: (keyL i.key ++ (plC i.pl ++ [.int .i64 i.snap]))) (slC i.sl) [.int .i64 i.unit] _ 38 (by simp [itC]) (by simp [itC]) (by simp [keyL_len, plC_len]) rfl
theorem put_sl (i : It) (s : Sl) : putAt (itC i).toArray 39 (slC s) = (itC { i with sl := s }).toArray :=
  put_mid (.int .u8 i.kind :: (keyL i.key ++ (plC i.pl ++ [.int .i64 i.snap, .int .i64 i.unit]))) [] (slC i.sl) _ 39 (by simp [itC]) (by simp [itC]) (by simp [keyL_len, plC_len]) (by rw [slC_len, slC_len])
theorem built_ext (K : Key) (p : Pl) : Tryz.prog.built 135 [(0, .int .u8 1), (1, .agg (keyL K).toArray), (2, .agg (plC p).toArray)] = some (itC ⟨1, K, p, 0, 0, zSl⟩).toArray := by
  rw [built_it, fill_cons 0 [.int .u8 1] rfl rfl (by simp [itC_len]), put_kind, fill_cons 1 (keyL K) (by simp [Value.cells]) (by rw [keyL_len]; rfl) (by simp [itC_len, keyL_len]), put_key, fill_cons 33 (plC p) (by simp [Value.cells]) rfl (by simp [itC_len, plC_len]), put_pl]
  rfl
theorem built_sl (s u : Int) (x : Sl) : Tryz.prog.built 135 [(0, .int .u8 2), (3, .int .i64 s), (4, .int .i64 u), (5, .agg (slC x).toArray)] = some (itC ⟨2, zKey, zPl, s, u, x⟩).toArray := by
  rw [built_it, fill_cons 0 [.int .u8 2] rfl rfl (by simp [itC_len]), put_kind, fill_cons 37 [.int .i64 s] rfl rfl (by simp [itC_len]), put_snap, fill_cons 38 [.int .i64 u] rfl rfl (by simp [itC_len]), put_unit, fill_cons 39 (slC x) (by simp [Value.cells]) (by rw [slC_len]; rfl) (by simp [itC_len, slC_len]), put_sl]
  rfl
theorem built_sn (s : Int) : Tryz.prog.built 135 [(0, .int .u8 3), (3, .int .i64 s)] = some (itC ⟨3, zKey, zPl, s, 0, zSl⟩).toArray := by
  rw [built_it, fill_cons 0 [.int .u8 3] rfl rfl (by simp [itC_len]), put_kind, fill_cons 37 [.int .i64 s] rfl rfl (by simp [itC_len]), put_snap]
  rfl
end Go.Proofs.YtpadifphnbdbpaaGreat
