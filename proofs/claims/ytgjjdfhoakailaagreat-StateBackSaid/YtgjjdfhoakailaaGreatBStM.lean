/-
  what this claim needs of: StM (written by cut.py).
-/
import Derived.Test.YtgjjdfhoakailaaGreatBStW
import Derived.KernelRfl
namespace Go.Proofs.YtgjjdfhoakailaaGreat
open Go.RowKit Go.Maps
set_option linter.unusedVariables false
set_option linter.unusedSimpArgs false

theorem fm_len {f : Nat → List Value} {sz : Nat} (h : ∀ u, (f u).length = sz) (m : Nat) : ((List.range m).flatMap f).length = m * sz := by
  induction m with
  | zero => simp
  | succ m ih => rw [List.range_succ, List.flatMap_append, List.length_append, ih, List.flatMap_cons, List.flatMap_nil, List.append_nil, h, Nat.succ_mul]
theorem fm_cut {f : Nat → List Value} {sz : Nat} (h : ∀ u, (f u).length = sz) (m u : Nat) (hu : u < m) : ∃ A B, A.length = u * sz ∧ ∀ g : Nat → List Value, (∀ v, v ≠ u → g v = f v) → (List.range m).flatMap g = A ++ (g u ++ B) := by
  induction m with
  | zero => omega
  | succ m ih =>
    rcases Nat.lt_or_ge u m with h1 | h1
    · obtain ⟨A, B, hA, hB⟩ := ih h1
      refine ⟨A, B ++ f m, hA, fun g hg => ?_⟩
      rw [List.range_succ, List.flatMap_append, hB g hg, List.flatMap_cons, List.flatMap_nil, List.append_nil, hg m (by omega)]
      simp
    · have e : u = m := by omega
      subst e
      refine ⟨(List.range u).flatMap f, [], fm_len h u, fun g hg => ?_⟩
      rw [List.range_succ, List.flatMap_append, List.flatMap_cons, List.flatMap_nil, List.append_nil]
      congr 1
      rw [List.flatMap_def, List.flatMap_def]
      congr 1
      apply List.map_congr_left
      intro v hv
      exact hg v (by have := List.mem_range.1 hv; omega)
abbrev MpF := Nat → Sl
def upd (f : MpF) (u : Nat) (s : Sl) : MpF := fun v => if v = u then s else f v
def oneC (f : MpF) : List Value := (List.range 512).flatMap (fun u => slC (f u))
def mapsC (n : Nat) (f : MpF) (bs : Nat) : List Value := .int .i64 (n : Int) :: (oneC f ++ [.map (some bs)])
theorem toArr (l : List Value) : l.toArray.toList = l := by simp
theorem oneC_len (f : MpF) : (oneC f).length = 17408 := fm_len (sz := 34) (fun u => slC_len _) 512
theorem mapsC_len (n : Nat) (f : MpF) (bs : Nat) : (mapsC n f bs).length = 17410 := by simp [mapsC, oneC_len]
theorem oneC_cut (f : MpF) (u : Nat) (hu : u < 512) : ∃ A B, A.length = u * 34 ∧ ∀ s, oneC (upd f u s) = A ++ (slC s ++ B) := by
  obtain ⟨A, B, hA, hB⟩ := fm_cut (f := fun u => slC (f u)) (sz := 34) (fun u => slC_len _) 512 u hu
  refine ⟨A, B, hA, fun s => ?_⟩
  have := hB (fun v => slC (upd f u s v)) (fun v hv => by simp [upd, hv])
  unfold oneC
  rw [this]
  simp [upd]
theorem upd_self (f : MpF) (u : Nat) : upd f u (f u) = f := by
  funext v
  unfold upd
  split
  · rename_i h; rw [h]
  · rfl
theorem oneC_part (f : MpF) (u : Nat) (hu : u < 512) : ((oneC f).drop (u * 34)).take 34 = slC (f u) := by
  obtain ⟨A, B, hA, hB⟩ := oneC_cut f u hu
  have := hB (f u)
  rw [upd_self] at this
  rw [this, ← hA, List.drop_left, List.take_append_of_le_length (by rw [slC_len]; exact Nat.le_refl _), List.take_of_length_le (by rw [slC_len]; exact Nat.le_refl _)]
theorem mapsC_part (n : Nat) (f : MpF) (bs u : Nat) (hu : u < 512) : ((mapsC n f bs).drop (1 + u * 34)).take 34 = slC (f u) := by
  unfold mapsC
  rw [Nat.add_comm, List.drop_succ_cons, List.drop_append_of_le_length (by rw [oneC_len]; omega), List.take_append_of_le_length (by rw [List.length_drop, oneC_len]; omega), oneC_part f u hu]
theorem mapsC_one (n : Nat) (f : MpF) (bs : Nat) : ((mapsC n f bs).drop 1).take 17408 = oneC f := by
  unfold mapsC
  rw [List.drop_succ_cons, List.drop_zero, List.take_append_of_le_length (by rw [oneC_len]; omega), List.take_of_length_le (by rw [oneC_len]; omega)]
theorem mapsC_put (n : Nat) (f : MpF) (bs u : Nat) (hu : u < 512) (s : Sl) : putAt (mapsC n f bs).toArray (1 + u * 34) (slC s) = (mapsC n (upd f u s) bs).toArray := by
  obtain ⟨A, B, hA, hB⟩ := oneC_cut f u hu
  have h0 := hB (f u)
  rw [upd_self] at h0
  have hl : A.length + (34 + B.length) = 17408 := by
    have := congrArg List.length h0
    simp only [oneC_len, List.length_append, slC_len] at this
    omega
  rw [putAt_list _ _ _ (by simp only [List.size_toArray, mapsC_len, slC_len]; omega)]
  refine congrArg List.toArray ?_
  unfold mapsC
  rw [h0, hB s]
  have e1 : ((.int .i64 (n : Int) :: (A ++ (slC (f u) ++ B) ++ [.map (some bs)])) : List Value) = (.int .i64 (n : Int) :: A) ++ (slC (f u) ++ (B ++ [.map (some bs)])) := by simp
  have e2 : (.int .i64 (n : Int) :: A : List Value).length = 1 + u * 34 := by simp [hA]; omega
  rw [toArr, e1, List.take_left' e2, ← List.drop_drop, List.drop_left' e2, List.drop_left' (by rw [slC_len, slC_len])]
  simp
theorem mapsC_over (n : Nat) (f g : MpF) (bs : Nat) : putAt (mapsC n f bs).toArray 1 (oneC g) = (mapsC n g bs).toArray := by
  rw [putAt_list _ _ _ (by simp only [List.size_toArray, mapsC_len, oneC_len]; omega)]
  refine congrArg List.toArray ?_
  unfold mapsC
  rw [toArr, Nat.add_comm, List.drop_succ_cons, oneC_len, ← oneC_len f, List.drop_left]
  simp
theorem mapsC_snaps (n : Nat) (f : MpF) (bs : Nat) : (mapsC n f bs).toArray[17409]? = some (.map (some bs)) := by
  rw [List.getElem?_toArray]
  unfold mapsC
  rw [List.getElem?_cons_succ, List.getElem?_append_right (by rw [oneC_len]; omega), oneC_len]
  rfl
theorem mapsC_n (n : Nat) (f : MpF) (bs : Nat) : (mapsC n f bs).toArray[0]? = some (.int .i64 (n : Int)) := rfl
theorem slC_off (s : Sl) : (slC s)[32]? = some (.int .i64 s.off) := by
  unfold slC
  rw [List.getElem?_append_right (by rw [keyL_len]; omega), keyL_len]
  rfl
theorem slC_mask (s : Sl) : (slC s)[33]? = some (.int .i64 s.mask) := by
  unfold slC
  rw [List.getElem?_append_right (by rw [keyL_len]; omega), keyL_len]
  rfl
theorem mapsC_cell (n : Nat) (f : MpF) (bs u j : Nat) (hu : u < 512) (hj : j < 34) : (mapsC n f bs).toArray[1 + u * 34 + j]? = (slC (f u))[j]? := by
  rw [List.getElem?_toArray, ← mapsC_part n f bs u hu, List.getElem?_take_of_lt hj, List.getElem?_drop]
theorem oneC_cell (f : MpF) (u j : Nat) (hu : u < 512) (hj : j < 34) : (oneC f).toArray[u * 34 + j]? = (slC (f u))[j]? := by
  rw [List.getElem?_toArray, ← oneC_part f u hu, List.getElem?_take_of_lt hj, List.getElem?_drop]

/-- The maps in memory: M: each snapshot's number, its block, what it holds. -/
abbrev SnM := List (Int × (Nat × MpF))
def kvI (n : Int) : Value := .int .i64 n
def klI (n : Int) : Lit := .int .i64 n
def veP (p : Nat × MpF) : Value := .pointer (some ⟨p.1, 0, none⟩)
structure MapsIs (w : World) (mi bs n : Nat) (f : MpF) (M : SnM) : Prop where
  blk : Blk w mi 123 (mapsC n f bs).toArray
  map : MapIs Tryz.prog 3 kvI klI veP w bs M
  each : ∀ p ∈ M, Blk w p.2.1 121 (oneC p.2.2).toArray
  low : 1 ≤ n
  high : n ≤ 512
section
variable {w w' : World} {mi bs n : Nat} {f : MpF} {M : SnM}
theorem MapIs.obj {α β : Type} [DecidableEq α] {P : Program} {k : TypeId} {kv : α → Value} {kl : α → Lit} {ve : β → Value} {w : World} {b : Nat} {M : List (α × β)} (h : MapIs P k kv kl ve w b M) : ∃ es c, w.heap[b]? = some (.map es c) := by
  obtain ⟨es, ⟨es', clock, hb, _⟩, _⟩ := h
  exact ⟨_, _, hb⟩
theorem blk_ne_map {α β : Type} [DecidableEq α] {P : Program} {k : TypeId} {kv : α → Value} {kl : α → Lit} {ve : β → Value} {w : World} {b g : Nat} {t : TypeId} {cs : Array Value} {M : List (α × β)} (h : MapIs P k kv kl ve w b M) (hb : Blk w g t cs) : g ≠ b := by
  obtain ⟨es, c, e⟩ := h.obj
  rintro rfl
  unfold Blk at hb
  rw [e] at hb
  cases hb
theorem blk_ne_ty {w : World} {g g' : Nat} {t t' : TypeId} {cs cs' : Array Value} (h : Blk w g t cs) (h' : Blk w g' t' cs') (ht : t ≠ t') : g ≠ g' := by
  rintro rfl
  unfold Blk at h h'
  rw [h] at h'
  injection h' with h'
  injection h' with _ h'
  exact ht h'
theorem MapsIs.tch {T : List Nat} (h : MapsIs w mi bs n f M) (hb : Tch T w w') (h1 : mi ∉ T) (h2 : bs ∉ T) (h3 : ∀ p ∈ M, p.2.1 ∉ T) : MapsIs w' mi bs n f M :=
  ⟨h.blk.tch hb h1, h.map.tch hb h2, fun p hp => (h.each p hp).tch hb (h3 p hp), h.low, h.high⟩
theorem MapsIs.below (h : MapsIs w mi bs n f M) (hb : Below w.heap.size w w') : MapsIs w' mi bs n f M := h.tch (T := []) (Tch.below hb) (by simp) (by simp) (by simp)
theorem MapsIs.grown (h : MapsIs w mi bs n f M) (hg : w.grownBy w' none) : MapsIs w' mi bs n f M := h.tch (T := []) (Tch.grown hg (by simp)) (by simp) (by simp) (by simp)
theorem MapsIs.n_cell (h : MapsIs w mi bs n f M) : w.cell? ⟨mi, 0, none⟩ = some (.int .i64 (n : Int)) := h.blk.cell (mapsC_n n f bs)
theorem MapsIs.s_cell (h : MapsIs w mi bs n f M) : w.cell? ⟨mi, 17409, none⟩ = some (.map (some bs)) := h.blk.cell (mapsC_snaps n f bs)
end
theorem klI_inj {β : Type} {M : List (Int × β)} (x : Int) : ∀ p ∈ M, klI p.1 = klI x → p.1 = x := fun p _ h => by unfold klI at h; injection h
theorem keyOf_kvI {n : Int} (h : -9223372036854775808 ≤ n ∧ n ≤ 9223372036854775807) : keyOf Tryz.prog 3 (kvI n) = some (klI n) := keyOf_i64 h
theorem known_any {w : World} {mi bs n : Nat} {f : MpF} {M : SnM} (h : MapsIs w mi bs n f M) : Calls Tryz.prog 96 #[.pointer (some ⟨mi, 0, none⟩)] w fun e w' => e = .returned (.bool true) ∧ w = w' := by
  have c0 := h.n_cell
  have hn : 0 < n := h.low
  clear h
  go_enter Tryz.func96, Tryz.ntmps96
  go_wp2
  go_ret
  exact ⟨rfl, rfl⟩
/-- The map of a number. -/
def ofS (f : MpF) (M : SnM) (snap : Int) : Option MpF := if snap = 0 then some f else (aget M snap).map (·.2)
def ofP (mi : Nat) (M : SnM) (snap : Int) : Value := if snap = 0 then .pointer (some ⟨mi, 1, none⟩) else ((aget M snap).map veP).getD (.pointer none)
theorem of_any {w : World} {mi bs n : Nat} {f : MpF} {M : SnM} (h : MapsIs w mi bs n f M) (snap : Int) (hs : -9223372036854775808 ≤ snap ∧ snap ≤ 9223372036854775807) : Calls Tryz.prog 97 #[.pointer (some ⟨mi, 0, none⟩), .int .i64 snap] w fun e w' => e = .returned (ofP mi M snap) ∧ w = w' := by
  have c0 := h.s_cell
  have H := Lib.hid h.map
  clear h
  by_cases h0 : snap = 0
  · subst h0
    go_enter Tryz.func97, Tryz.ntmps97
    go_wp2
    go_ret
    exact ⟨rfl, rfl⟩
  · have e0 : (snap == 0) = false := beq_eq_false_iff_ne.2 h0
    have eP : ofP mi M snap = ((aget M snap).map veP).getD (.pointer none) := by unfold ofP; rw [if_neg h0]
    have EP := Lib.hid eP
    clear eP
    generalize ofP mi M snap = R at *
    go_enter Tryz.func97, Tryz.ntmps97
    go_wp2_with ((with_reducible show wpList _ _ _ (_ :: _) _ _); refine wpl_mlook rfl 118 (.tmp 13) (.tmp 14) rfl keyed_int Tryz.underlying118 H.out rfl snap rfl (Tryz.zeroValue119) (klI_inj snap) (keyOf_kvI hs) ?_)
    go_ret
    rw [EP.out]
    exact ⟨rfl, rfl⟩
end Go.Proofs.YtgjjdfhoakailaaGreat
namespace Go.Proofs.YtgjjdfhoakailaaGreat
open Go.RowKit Go.Maps
set_option linter.unusedVariables false
set_option linter.unusedSimpArgs false

section
variable {P : Program} {w : World} {ops : Array Oper} {rest : List Oper} {o : Oper} {a : Act} {Q : Exit → Act → World → Prop}
theorem wpl_mk (hg : o.guard = none) (t : TypeId) (parts : Array (Nat × Operand)) (ho : o.op = .build t parts) (vals : List (Nat × Value)) (hl : parts.toList.map (fun x => (x.1, a.eval x.2)) = vals) (cs : Array Value) (hf : P.built t vals = some cs)
    (h : wpList P ops Q rest (a.put o.dst (.agg cs)) w) : wpList P ops Q (o :: rest) a w := by
  have hf' : P.built t (parts.map fun (i, x) => (i, a.eval x)).toList = some cs := by
    rw [Array.toList_map]
    rw [← hl] at hf
    exact hf
  refine wpList_build hg t parts ho (by rw [hf']; rfl) ?_
  rw [hf']
  exact h
end
theorem built_zSl : Tryz.prog.built 54 [] = some (slC zSl).toArray := by kernel_rfl
theorem infoSl : (Tryz.prog.info? 54).map (·.size) = some 34 := by kernel_rfl
theorem infoOne : (Tryz.prog.info? 121).map (·.size) = some 17408 := by kernel_rfl
theorem ofP_none {f : MpF} {M : SnM} {snap : Int} (mi : Nat) (h : ofS f M snap = none) : ofP mi M snap = .pointer none := by
  unfold ofS at h
  unfold ofP
  split at h
  · cases h
  · rename_i h0
    rw [if_neg h0]
    cases hq : aget M snap with
    | none => rfl
    | some p => rw [hq] at h; cases h
theorem ofP_some {w : World} {mi bs n : Nat} {f : MpF} {M : SnM} (h : MapsIs w mi bs n f M) {snap : Int} {g : MpF} (hg : ofS f M snap = some g) :
    ∃ b off, ofP mi M snap = .pointer (some ⟨b, off, none⟩) ∧ b < w.heap.size ∧ ∀ u, u < 512 → w.rangeAt b (off + u * 34) (slC (g u)) := by
  unfold ofS at hg
  unfold ofP
  split at hg
  · rename_i h0
    rw [if_pos h0]
    injection hg with hg
    subst hg
    exact ⟨mi, 1, rfl, h.blk.lt, fun u hu => h.blk.part _ _ (by rw [slC_len]; exact mapsC_part n f bs u hu)⟩
  · rename_i h0
    rw [if_neg h0]
    cases hq : aget M snap with
    | none => rw [hq] at hg; cases hg
    | some p =>
      rw [hq] at hg
      injection hg with hg
      subst hg
      have hb := h.each _ (aget_mem hq)
      exact ⟨p.1, 0, rfl, hb.lt, fun u hu => by rw [Nat.zero_add]; exact hb.part _ _ (by rw [slC_len]; exact oneC_part p.2 u hu)⟩
def getS (n : Nat) (f : MpF) (M : SnM) (snap unit : Int) : Option Sl :=
  if 0 ≤ unit ∧ unit < n then match ofS f M snap with
    | some g => if (g unit.toNat).mask = 0 then none else some (g unit.toNat)
    | none => none
  else none
def GetPost (r : Option Sl) (w : World) (e : Ending) (w' : World) : Prop := e = .returned (.tuple #[vSl (r.getD zSl), .bool r.isSome]) ∧ Below w.heap.size w w'
set_option maxHeartbeats 1000000 in
theorem get_any {w : World} {mi bs n : Nat} {f : MpF} {M : SnM} (h : MapsIs w mi bs n f M) (snap unit : Int) (hs : -9223372036854775808 ≤ snap ∧ snap ≤ 9223372036854775807) :
    Calls Tryz.prog 72 #[.pointer (some ⟨mi, 0, none⟩), .int .i64 snap, .int .i64 unit] w (GetPost (getS n f M snap unit) w) := by
  have H := Lib.hid h
  have hn := h.high
  clear h
  generalize hr : getS n f M snap unit = r
  have HR0 := Lib.hid hr
  clear hr
  go_enter Tryz.func72, Tryz.ntmps72
  go_upto_region 1 with ((with_reducible show wpList _ _ _ (_ :: _) _ _); refine wpl_alloc rfl 54 rfl Tryz.zeroValue54 34 rfl ?_; intro w1 cs hk hc hg hz; have K := Lib.hid hk; have C := Lib.hid hc; have G := Lib.hid hg; have Z := Lib.hid hz; clear hk hc hg hz)
  have H1 := Lib.hid (H.out.grown G.out)
  have c0 := H1.out.n_cell
  have L1 := Lib.hid (show Below w.heap.size w w1 from (Below.refl _ _).grown G.out (Nat.le_refl _) (by simp))
  by_cases hu : unit < 0
  · have HR := Lib.hid (show r = none by rw [← HR0.out]; unfold getS; rw [if_neg (by omega)])
    go_wp2_with (first
      | (go_at_call 96; refine (known_any H1.out).mono ?_; rintro e w2 ⟨rfl, rfl⟩)
      | ((with_reducible show wpList _ _ _ (_ :: _) _ _); refine wpl_mk rfl 54 #[] rfl [] rfl _ built_zSl ?_)
      | ((with_reducible show wpList _ _ _ (_ :: _) _ _); refine wpl_over rfl 54 (.tmp 6) (.tmp 24) rfl w.heap.size (slC zSl) rfl rfl _ cs K.out (by rw [slC_len]; exact infoSl) (by rw [slC_len, C.out]) (slC_one _) ?_; intro w2 hk hg hz; have K2 := Lib.hid hk; have L2 := Lib.hid (bl_g L1.out hg (Nat.le_refl _)); clear hk hg hz))
    refine bodyPost_ret (results_blk_tmp rfl _ w.heap.size rfl _ _ K2.out _ Tryz.underlying54 rfl 34 infoSl (by simp [slC_len])) rfl ?_
    rw [HR.out]
    exact ⟨rfl, L2.out⟩
  · by_cases hu2 : (n : Int) ≤ unit
    · have HR := Lib.hid (show r = none by rw [← HR0.out]; unfold getS; rw [if_neg (by omega)])
      go_wp2_with (first
        | (go_at_call 96; refine (known_any H1.out).mono ?_; rintro e w2 ⟨rfl, rfl⟩)
        | ((with_reducible show wpList _ _ _ (_ :: _) _ _); refine wpl_mk rfl 54 #[] rfl [] rfl _ built_zSl ?_)
        | ((with_reducible show wpList _ _ _ (_ :: _) _ _); refine wpl_over rfl 54 (.tmp 6) (.tmp 24) rfl w.heap.size (slC zSl) rfl rfl _ cs K.out (by rw [slC_len]; exact infoSl) (by rw [slC_len, C.out]) (slC_one _) ?_; intro w2 hk hg hz; have K2 := Lib.hid hk; have L2 := Lib.hid (bl_g L1.out hg (Nat.le_refl _)); clear hk hg hz))
      refine bodyPost_ret (results_blk_tmp rfl _ w.heap.size rfl _ _ K2.out _ Tryz.underlying54 rfl 34 infoSl (by simp [slC_len])) rfl ?_
      rw [HR.out]
      exact ⟨rfl, L2.out⟩
    · obtain ⟨u, rfl⟩ : ∃ u : Nat, unit = (u : Int) := ⟨unit.toNat, by omega⟩
      have huN : u < 512 := by omega
      have hltN : ¬ n ≤ u := by omega
      cases hq : ofS f M snap with
      | none =>
        have eP := ofP_none mi hq
        have HR := Lib.hid (show r = none by rw [← HR0.out]; unfold getS; rw [if_pos (by omega), hq])
        go_wp2_with (first
          | (go_at_call 96; refine (known_any H1.out).mono ?_; rintro e w2 ⟨rfl, rfl⟩)
          | (go_at_call 97; refine (of_any H1.out snap hs).mono ?_; rw [eP]; rintro e w2 ⟨rfl, rfl⟩)
          | ((with_reducible show wpList _ _ _ (_ :: _) _ _); refine wpl_mk rfl 54 #[] rfl [] rfl _ built_zSl ?_)
          | ((with_reducible show wpList _ _ _ (_ :: _) _ _); refine wpl_over rfl 54 (.tmp 6) (.tmp 39) rfl w.heap.size (slC zSl) rfl rfl _ cs K.out (by rw [slC_len]; exact infoSl) (by rw [slC_len, C.out]) (slC_one _) ?_; intro w2 hk hg hz; have K2 := Lib.hid hk; have L2 := Lib.hid (bl_g L1.out hg (Nat.le_refl _)); clear hk hg hz))
        refine bodyPost_ret (results_blk_tmp rfl _ w.heap.size rfl _ _ K2.out _ Tryz.underlying54 rfl 34 infoSl (by simp [slC_len])) rfl ?_
        rw [HR.out]
        exact ⟨rfl, L2.out⟩
      | some g =>
        obtain ⟨b, off, eP, hb, hrg⟩ := ofP_some H1.out hq
        have HRg := Lib.hid (hrg u huN)
        clear hrg
        have cm := HRg.out 33 _ (slC_mask (g u))
        by_cases hm : (g u).mask = 0
        · have HR := Lib.hid (show r = none by rw [← HR0.out]; unfold getS; rw [if_pos (by omega), hq]; simp only [Int.toNat_natCast, hm, if_true])
          rw [hm] at cm
          go_wp2_with (first
            | (go_at_call 96; refine (known_any H1.out).mono ?_; rintro e w2 ⟨rfl, rfl⟩)
            | (go_at_call 97; refine (of_any H1.out snap hs).mono ?_; rw [eP]; rintro e w2 ⟨rfl, rfl⟩)
            | ((with_reducible show wpList _ _ _ (_ :: _) _ _); refine wpl_mk rfl 54 #[] rfl [] rfl _ built_zSl ?_)
            | ((with_reducible show wpList _ _ _ (_ :: _) _ _); refine wpl_over rfl 54 (.tmp 6) (.tmp 39) rfl w.heap.size (slC zSl) rfl rfl _ cs K.out (by rw [slC_len]; exact infoSl) (by rw [slC_len, C.out]) (slC_one _) ?_; intro w2 hk hg hz; have K2 := Lib.hid hk; have L2 := Lib.hid (bl_g L1.out hg (Nat.le_refl _)); clear hk hg hz))
          refine bodyPost_ret (results_blk_tmp rfl _ w.heap.size rfl _ _ K2.out _ Tryz.underlying54 rfl 34 infoSl (by simp [slC_len])) rfl ?_
          rw [HR.out]
          exact ⟨rfl, L2.out⟩
        · have HR := Lib.hid (show r = some (g u) by rw [← HR0.out]; unfold getS; rw [if_pos (by omega), hq]; simp only [Int.toNat_natCast, hm, if_false])
          have em : ((g u).mask == 0) = false := beq_eq_false_iff_ne.2 hm
          generalize (g u).mask = mk at cm em
          go_wp2_with (first
            | (go_at_call 96; refine (known_any H1.out).mono ?_; rintro e w2 ⟨rfl, rfl⟩)
            | (go_at_call 97; refine (of_any H1.out snap hs).mono ?_; rw [eP]; rintro e w2 ⟨rfl, rfl⟩)
            | ((with_reducible show wpList _ _ _ (_ :: _) _ _); refine wpList_load_mid rfl 54 (.tmp 43) rfl b (off + u * 34) rfl (slC (g u)) _ HRg.out Tryz.underlying54 rfl (by rw [slC_len]; exact infoSl) ?_)
            | ((with_reducible show wpList _ _ _ (_ :: _) _ _); refine wpl_over rfl 54 (.tmp 6) (.tmp 44) rfl w.heap.size (slC (g u)) rfl rfl _ cs K.out (by rw [slC_len]; exact infoSl) (by rw [slC_len, C.out]) (slC_one _) ?_; intro w2 hk hg hz; have K2 := Lib.hid hk; have L2 := Lib.hid (bl_g L1.out hg (Nat.le_refl _)); clear hk hg hz))
          refine bodyPost_ret (results_blk_tmp rfl _ w.heap.size rfl _ _ K2.out _ Tryz.underlying54 rfl 34 infoSl (by simp [slC_len])) rfl ?_
          rw [HR.out]
          exact ⟨rfl, L2.out⟩
end Go.Proofs.YtgjjdfhoakailaaGreat
namespace Go.Proofs.YtgjjdfhoakailaaGreat
open Go.RowKit Go.Maps
set_option linter.unusedVariables false
set_option linter.unusedSimpArgs false

def zF : MpF := fun _ => zSl
def cellAt (j : Nat) : Value := if j = 0 then .int .i64 0 else if j = 17409 then .map none else if (j - 1) % 34 < 32 then .int .u8 0 else .int .i64 0
def eqv : Value → Value → Bool
  | .int .i64 0, .int .i64 0 => true
  | .int .u8 0, .int .u8 0 => true
  | .map none, .map none => true
  | _, _ => false
theorem eqv_eq {x y : Value} (h : eqv x y = true) : x = y := by
  unfold eqv at h
  split at h
  · rfl
  · rfl
  · rfl
  · cases h
def chkAt (n : Nat) : List Value → Nat → Bool
  | [], j => Nat.beq j n
  | v :: r, j => match eqv v (cellAt j) with | true => chkAt n r (Nat.succ j) | false => false
theorem chkAt_get {n : Nat} : ∀ (l : List Value) (j : Nat), chkAt n l j = true → j + l.length = n ∧ ∀ i, i < l.length → l[i]? = some (cellAt (j + i))
  | [], j, h => ⟨by simpa using Nat.eq_of_beq_eq_true h, fun i hi => by simp at hi⟩
  | v :: r, j, h => by
    unfold chkAt at h
    split at h
    · rename_i hv
      obtain ⟨h1, h2⟩ := chkAt_get r (Nat.succ j) h
      refine ⟨by rw [List.length_cons]; omega, fun i hi => ?_⟩
      rcases i with _ | i
      · rw [eqv_eq hv]; rfl
      · rw [List.getElem?_cons_succ, h2 i (by simpa using hi)]
        congr 2
        omega
    · cases h
theorem chk_maps : chkAt 17410 Tryz.zeroCells123.toList 0 = true := by kernel_rfl
theorem zSl_cell (r : Nat) (hr : r < 34) : (slC zSl)[r]? = some (if r < 32 then .int .u8 0 else .int .i64 0) := by
  unfold slC
  rcases Nat.lt_or_ge r 32 with h | h
  · rw [List.getElem?_append_left (by rw [keyL_len]; exact h), if_pos h]
    show (List.map (Value.int .u8) (List.replicate 32 0))[r]? = _
    rw [List.map_replicate, List.getElem?_replicate, if_pos h]
  · rw [List.getElem?_append_right (by rw [keyL_len]; exact h), keyL_len, if_neg (by omega)]
    rcases (by omega : r = 32 ∨ r = 33) with rfl | rfl <;> rfl
theorem zero_maps : Tryz.zeroCells123 = (.int .i64 0 :: (oneC zF ++ [.map none]) : List Value).toArray := by
  obtain ⟨h1, h2⟩ := chkAt_get _ _ chk_maps
  apply Array.ext'
  rw [toArr]
  apply List.ext_getElem?
  intro j
  rcases Nat.lt_or_ge j 17410 with hj | hj
  · rw [h2 j (by omega), Nat.zero_add]
    unfold cellAt
    rcases j with _ | j
    · rfl
    · rw [if_neg (by omega), List.getElem?_cons_succ]
      rcases Nat.lt_or_ge j 17408 with hj2 | hj2
      · rw [if_neg (by omega), List.getElem?_append_left (by rw [oneC_len]; exact hj2)]
        have hc := oneC_cell zF (j / 34) (j % 34) (by omega) (by omega)
        rw [List.getElem?_toArray, show j / 34 * 34 + j % 34 = j by omega] at hc
        rw [hc]
        show _ = (slC zSl)[j % 34]?
        rw [zSl_cell _ (by omega), Nat.add_sub_cancel]
      · have : j = 17408 := by omega
        subst this
        rw [if_pos rfl, List.getElem?_append_right (by rw [oneC_len]; exact Nat.le_refl _), oneC_len]
        rfl
  · rw [List.getElem?_eq_none (by omega), List.getElem?_eq_none (by simp [oneC_len]; omega)]
theorem built_maps (n : Int) (m : Value) (hm : m.cells.toList = [m]) : Tryz.prog.built 123 [(0, .int .i64 n), (2, m)] = some (.int .i64 n :: (oneC zF ++ [m]) : List Value).toArray := by
  have e : Tryz.prog.built 123 [(0, .int .i64 n), (2, m)] = Instr.fill ([(0, 1), (1, 17408), (17409, 1)].toArray[·]?) Tryz.zeroCells123 [(0, .int .i64 n), (2, m)] := by kernel_rfl
  rw [e, zero_maps, fill_cons 0 [.int .i64 n] rfl rfl (by simp), fill_cons 17409 [m] hm rfl (by rw [size_putAt]; simp [oneC_len])]
  unfold Instr.fill
  refine congrArg some ?_
  rw [putAt_list _ _ _ (by rw [size_putAt]; simp [oneC_len])]
  refine congrArg List.toArray ?_
  rw [putAt_list _ _ _ (by simp), toArr, toArr]
  simp only [List.take_zero, List.nil_append, List.length_singleton, Nat.zero_add, List.cons_append]
  rw [List.drop_succ_cons, List.drop_zero, List.take_succ_cons, List.drop_succ_cons, List.take_left' (oneC_len _), List.drop_eq_nil_of_le (by simp [oneC_len])]
  simp
def NewSome (n : Nat) (w : World) (e : Ending) (w' : World) : Prop := ∃ mi bs, e = .returned (.pointer (some ⟨mi, 0, none⟩)) ∧ MapsIs w' mi bs n zF [] ∧ w.heap.size ≤ mi ∧ w.heap.size ≤ bs ∧ Below w.heap.size w w'
theorem maps_new (k : Nat) (hk : 1 ≤ k ∧ k ≤ 512) (w : World) : Calls Tryz.prog 35 #[.int .i64 (k : Int)] w (NewSome k w) := by
  have g1 : ¬ (k : Int) < 1 := by omega
  have g2 : ¬ 512 < (k : Int) := by omega
  have HK := Lib.hid hk
  clear hk
  have hmm := @run_makeMap Tryz.prog
  go_enter Tryz.func35, Tryz.ntmps35
  go_wp2_with (first
    | ((with_reducible show wpList _ _ _ (_ :: _) _ _); refine wpl_mk rfl 123 #[(0, .tmp 9), (2, .tmp 10)] rfl [(0, .int .i64 (k : Int)), (2, .map (some w.heap.size))] rfl _ (built_maps _ _ rfl) ?_)
    | ((with_reducible show wpList _ _ _ (_ :: _) _ _); refine wpl_box rfl 123 (.tmp 11) rfl _ rfl ?_; intro w1 hk hg hz; have K := Lib.hid hk; have G := Lib.hid hg; clear hk hg hz))
  go_ret
  refine ⟨w.heap.size + 1, w.heap.size, rfl, ⟨?_, ?_, fun p hp => by simp at hp, HK.out.1, HK.out.2⟩, Nat.le_succ _, Nat.le_refl _, ?_⟩
  · have := K.out
    rw [show (w.alloc (Obj.map #[] 0)).heap.size = w.heap.size + 1 by simp] at this
    exact this
  · exact (MapIs.made w _ _ _ _ _).kept G.out (by simp)
  · exact bl_n ((Below.refl _ _).alloc (Nat.le_refl _) _) G.out
end Go.Proofs.YtgjjdfhoakailaaGreat
namespace Go.Proofs.YtgjjdfhoakailaaGreat
open Go.RowKit Go.Maps
set_option linter.unusedVariables false
set_option linter.unusedSimpArgs false

theorem slC_info (s : Sl) : (Tryz.prog.info? 54).map (·.size) = some (slC s).length := by rw [slC_len]; exact infoSl
theorem keyL_info (K : Key) : (Tryz.prog.info? 50).map (·.size) = some (keyL K).length := by rw [keyL_len]; kernel_rfl
theorem MapsIs.set {w w' : World} {mi bs n : Nat} {f g : MpF} {M : SnM} (h : MapsIs w mi bs n f M) (hb : Blk w' mi 123 (mapsC n g bs).toArray) (hg : w.grownBy w' (some mi)) : MapsIs w' mi bs n g M :=
  ⟨hb, h.map.kept hg (by have := blk_ne_map h.map h.blk; simp; omega), fun p hp => (h.each p hp).grown hg (by have := blk_ne_ty (h.each p hp) h.blk (by decide); simp; exact this), h.low, h.high⟩
def setE (n : Nat) (unit : Int) (s : Sl) : Int := if 0 ≤ unit ∧ unit < n ∧ 0 ≤ s.off ∧ s.off < 16 ∧ 1 ≤ s.mask ∧ s.mask ≤ 255 then 0 else 2
def setF (n : Nat) (f : MpF) (unit : Int) (s : Sl) : MpF := if setE n unit s = 0 then upd f unit.toNat s else f
def SetPost (mi bs n : Nat) (f : MpF) (M : SnM) (unit : Int) (s : Sl) (w : World) (e : Ending) (w' : World) : Prop := e = .returned (.int .i64 (setE n unit s)) ∧ MapsIs w' mi bs n (setF n f unit s) M ∧ Tch [mi] w w'
set_option maxHeartbeats 1000000 in
theorem set_any {w : World} {mi bs n : Nat} {f : MpF} {M : SnM} (h : MapsIs w mi bs n f M) (unit : Int) (s : Sl) :
    Calls Tryz.prog 83 #[.pointer (some ⟨mi, 0, none⟩), .int .i64 unit, .agg (slC s).toArray] w (SetPost mi bs n f M unit s w) := by
  have H := Lib.hid h
  have hn := h.high
  clear h
  go_enter Tryz.func83, Tryz.ntmps83
  go_upto_region 1 with ((with_reducible show wpList _ _ _ (_ :: _) _ _); refine wpl_box rfl 54 (.tmp 2) rfl _ rfl ?_; intro w1 hk hg hz; have K := Lib.hid hk; have G := Lib.hid hg; clear hk hg hz)
  have H1 := Lib.hid (H.out.grown G.out)
  have c0 := H1.out.n_cell
  have L1 := Lib.hid (bl_n (Below.refl _ _) G.out)
  have co := K.out.cell (i := 32) (by rw [List.getElem?_toArray]; exact slC_off s)
  have cm := K.out.cell (i := 33) (by rw [List.getElem?_toArray]; exact slC_mask s)
  by_cases h1 : unit < 0
  · have HE := Lib.hid (show setE n unit s = 2 from if_neg (by omega))
    go_wp2_with (go_at_call 96; refine (known_any H1.out).mono ?_; rintro e w2 ⟨rfl, rfl⟩)
    go_ret
    unfold SetPost setF
    rw [HE.out, if_neg (by decide)]
    exact ⟨rfl, H1.out, Tch.below L1.out⟩
  by_cases h2 : (n : Int) ≤ unit
  · have HE := Lib.hid (show setE n unit s = 2 from if_neg (by omega))
    go_wp2_with (go_at_call 96; refine (known_any H1.out).mono ?_; rintro e w2 ⟨rfl, rfl⟩)
    go_ret
    unfold SetPost setF
    rw [HE.out, if_neg (by decide)]
    exact ⟨rfl, H1.out, Tch.below L1.out⟩
  by_cases h3 : s.off < 0
  · have HE := Lib.hid (show setE n unit s = 2 from if_neg (by omega))
    go_wp2_with (go_at_call 96; refine (known_any H1.out).mono ?_; rintro e w2 ⟨rfl, rfl⟩)
    go_ret
    unfold SetPost setF
    rw [HE.out, if_neg (by decide)]
    exact ⟨rfl, H1.out, Tch.below L1.out⟩
  by_cases h4 : 16 ≤ s.off
  · have HE := Lib.hid (show setE n unit s = 2 from if_neg (by omega))
    go_wp2_with (go_at_call 96; refine (known_any H1.out).mono ?_; rintro e w2 ⟨rfl, rfl⟩)
    go_ret
    unfold SetPost setF
    rw [HE.out, if_neg (by decide)]
    exact ⟨rfl, H1.out, Tch.below L1.out⟩
  by_cases h5 : s.mask < 1
  · have HE := Lib.hid (show setE n unit s = 2 from if_neg (by omega))
    go_wp2_with (go_at_call 96; refine (known_any H1.out).mono ?_; rintro e w2 ⟨rfl, rfl⟩)
    go_ret
    unfold SetPost setF
    rw [HE.out, if_neg (by decide)]
    exact ⟨rfl, H1.out, Tch.below L1.out⟩
  by_cases h6 : 255 < s.mask
  · have HE := Lib.hid (show setE n unit s = 2 from if_neg (by omega))
    go_wp2_with (go_at_call 96; refine (known_any H1.out).mono ?_; rintro e w2 ⟨rfl, rfl⟩)
    go_ret
    unfold SetPost setF
    rw [HE.out, if_neg (by decide)]
    exact ⟨rfl, H1.out, Tch.below L1.out⟩
  have HE := Lib.hid (show setE n unit s = 0 from if_pos (by omega))
  obtain ⟨u, rfl⟩ : ∃ u : Nat, unit = (u : Int) := ⟨unit.toNat, by omega⟩
  have hu : u < 512 := by omega
  have h2' : ¬ n ≤ u := by omega
  go_wp2_with (go_at_call 96; refine (known_any H1.out).mono ?_; rintro e w2 ⟨rfl, rfl⟩)
  refine wp_region_qs (fun j w' => j ≤ 0 → w'.rangeAt w.heap.size 0 (slC s)) [(0, some 0), (1, some 0), (2, some 0), (3, some 1), (4, some 1), (5, some 0), (6, none)] (by kernel_rfl) (by kernel_rfl) (by kernel_rfl) (by kernel_rfl) (by kernel_rfl) (fun _ _ _ _ _ h => h) (fun _ => by have := K.out.drew.range; rwa [toArr] at this) ?_
  simp only [List.map_cons, List.map_nil, List.getD_cons_succ, List.getD_cons_zero]
  (repeat (first | ((refine qs_row (by rfl) 54 (.tmp 5) rfl w.heap.size 0 rfl (slC s) _ (fun j w' h1 h2 h => h h2) Tryz.underlying54 rfl (slC_info s) ?_); simp only [Act.put, List.setIfInBounds_toArray, List.set_cons_zero, List.set_cons_succ]) | (refine qs_now (v := ?_) (by rfl) ?_ ?_; rotate_left 1; (· (intro w' hS; go_simp; (try (simp only [↓IntWalk.iteOmega]; go_simp)); (try simp (disch := omega) only [IntWalk.i64_in]); try with_reducible rfl)); simp only [Act.put, List.setIfInBounds_toArray, List.set_cons_zero, List.set_cons_succ]) | (refine qs_run (v := ?_) (by rfl) ?_ ?_; rotate_left 1; (· (intro j w' hS; go_simp; (try (simp only [↓IntWalk.iteOmega]; go_simp)); (try simp (disch := omega) only [IntWalk.i64_in]); try with_reducible rfl)); simp only [Act.put, List.setIfInBounds_toArray, List.set_cons_zero, List.set_cons_succ]) | (refine qs_mid (v := ?_) (by rfl) ?_ ?_; rotate_left 1; (· (intro j w' hj1 hj2 hS; go_simp; (try (simp only [↓IntWalk.iteOmega]; go_simp)); (try simp (disch := omega) only [IntWalk.i64_in]); try with_reducible rfl)); simp only [Act.put, List.setIfInBounds_toArray, List.set_cons_zero, List.set_cons_succ]) | (refine qs_skip (by rfl) ?_; simp only [Act.put, List.setIfInBounds_toArray, List.set_cons_zero, List.set_cons_succ])))
  refine qs_act ?_
  go_wp2_with ((with_reducible show wpList _ _ _ (_ :: _) _ _); refine wpl_put rfl 54 (.tmp 47) (.tmp 44) rfl mi (1 + u * 34) (slC s) rfl rfl _ _ H1.out.blk.drew (slC_info s) (by rw [List.size_toArray, mapsC_len, slC_len]; omega) (slC_one s) ?_; intro w2 hk hg hz; have K2 := Lib.hid hk; have G2 := Lib.hid hg; clear hk hg hz)
  refine ⟨fun h => absurd h (by omega), ?_⟩
  refine qs_nil ?_
  go_wp2_with fail
  go_ret
  unfold SetPost setF
  rw [HE.out, if_pos rfl, Int.toNat_natCast]
  have K2' := K2.out
  rw [mapsC_put n f bs u hu s] at K2'
  have G1 : w1.grownBy w2 (some mi) := ⟨G2.out.os, G2.out.tape, G2.out.output, G2.out.size, G2.out.block⟩
  exact ⟨rfl, H1.out.set K2' G1, (Tch.below L1.out).trans (Tch.grown G1 (fun k hk => by injection hk with hk; subst hk; exact .inl (by simp)))⟩
end Go.Proofs.YtgjjdfhoakailaaGreat
namespace Go.Proofs.YtgjjdfhoakailaaGreat
open Go.RowKit Go.Maps
set_option linter.unusedVariables false
set_option linter.unusedSimpArgs false

theorem oneC_info (f : MpF) : (Tryz.prog.info? 121).map (·.size) = some (oneC f).length := by rw [oneC_len]; exact infoOne
theorem oneC_one (f : MpF) : ∀ v ∈ oneC f, v.oneCell' = true := by
  intro v hv
  obtain ⟨u, _, h⟩ := List.mem_flatMap.1 hv
  exact slC_one _ v h
def lenIs (n : Nat) : List Value → Nat → Bool
  | [], j => Nat.beq j n
  | _ :: r, j => match Nat.ble j n with | true => lenIs n r (Nat.succ j) | false => false
theorem lenIs_eq {n : Nat} : ∀ (l : List Value) (j : Nat), lenIs n l j = true → j + l.length = n
  | [], j, h => by simpa using Nat.eq_of_beq_eq_true h
  | v :: r, j, h => by
    unfold lenIs at h
    split at h
    · have := lenIs_eq r _ h
      rw [List.length_cons]
      omega
    · cases h
theorem zero_one_len : (Value.agg Tryz.zeroCells121).cells.size = 17408 := by
  have h : lenIs 17408 Tryz.zeroCells121.toList 0 = true := by kernel_rfl
  have := lenIs_eq _ _ h
  rw [Nat.zero_add, Array.length_toList] at this
  exact this
theorem mapsC_rng {w : World} {mi n bs : Nat} {f : MpF} (h : Blk w mi 123 (mapsC n f bs).toArray) : w.rangeAt mi 1 (oneC f) := h.part _ _ (by rw [oneC_len]; exact mapsC_one n f bs)
def snapE (M : SnM) (id : Int) : Int := if id < 1 ∨ 1073741824 < id then 2 else if (aget M id).isSome then 7 else if 8 ≤ M.length then 14 else 0
def SnapPost (mi bs n : Nat) (f : MpF) (M : SnM) (id : Int) (w : World) (e : Ending) (w' : World) : Prop := e = .returned (.int .i64 (snapE M id)) ∧ Tch [bs] w w' ∧
  ((snapE M id ≠ 0 ∧ MapsIs w' mi bs n f M) ∨ (snapE M id = 0 ∧ ∃ g, MapsIs w' mi bs n f (aput M id (g, f)) ∧ w.heap.size ≤ g))
set_option maxRecDepth 100000 in
set_option maxHeartbeats 1000000 in
theorem snap_any {w : World} {mi bs n : Nat} {f : MpF} {M : SnM} (h : MapsIs w mi bs n f M) (id : Int) :
    Calls Tryz.prog 80 #[.pointer (some ⟨mi, 0, none⟩), .int .i64 id] w (SnapPost mi bs n f M id w) := by
  have H := Lib.hid h
  have c0 := h.s_cell
  clear h
  by_cases h1 : id < 1
  · have HE := Lib.hid (show snapE M id = 2 from if_pos (.inl h1))
    go_enter Tryz.func80, Tryz.ntmps80
    go_wp2_with (go_at_call 96; refine (known_any H.out).mono ?_; rintro e w2 ⟨rfl, rfl⟩)
    go_ret
    unfold SnapPost
    rw [HE.out]
    exact ⟨rfl, Tch.refl _ _, .inl ⟨by decide, H.out⟩⟩
  by_cases h2 : 1073741824 < id
  · have HE := Lib.hid (show snapE M id = 2 from if_pos (.inr h2))
    go_enter Tryz.func80, Tryz.ntmps80
    go_wp2_with (go_at_call 96; refine (known_any H.out).mono ?_; rintro e w2 ⟨rfl, rfl⟩)
    go_ret
    unfold SnapPost
    rw [HE.out]
    exact ⟨rfl, Tch.refl _ _, .inl ⟨by decide, H.out⟩⟩
  have hid : -9223372036854775808 ≤ id ∧ id ≤ 9223372036854775807 := by omega
  have HD := Lib.hid hid
  clear hid
  cases hq : aget M id with
  | some p =>
    have HE := Lib.hid (show snapE M id = 7 by unfold snapE; rw [if_neg (by omega), hq]; rfl)
    have hval : ((aget M id).map veP).getD (.pointer none) = .pointer (some ⟨p.1, 0, none⟩) := by rw [hq]; rfl
    have HV := Lib.hid hval
    clear hq hval
    go_enter Tryz.func80, Tryz.ntmps80
    go_wp2_with (first
      | (go_at_call 96; refine (known_any H.out).mono ?_; rintro e w2 ⟨rfl, rfl⟩)
      | ((with_reducible show wpList _ _ _ (_ :: _) _ _); refine wpl_mlook rfl 118 (.tmp 21) (.tmp 22) rfl keyed_int Tryz.underlying118 H.out.map rfl id rfl (Tryz.zeroValue119) (klI_inj id) (keyOf_kvI HD.out) ?_; rw [HV.out]))
    go_ret
    unfold SnapPost
    rw [HE.out]
    exact ⟨rfl, Tch.refl _ _, .inl ⟨by decide, H.out⟩⟩
  | none =>
    have HN := Lib.hid hq
    have hval : ((aget M id).map veP).getD (.pointer none) = .pointer none := by rw [hq]; rfl
    have HV := Lib.hid hval
    clear hq hval
    by_cases h8 : 8 ≤ M.length
    · have HE := Lib.hid (show snapE M id = 14 by unfold snapE; rw [if_neg (by omega), HN.out, if_neg (by simp), if_pos h8])
      have h8I : (8 : Int) ≤ (M.length : Int) := by omega
      go_enter Tryz.func80, Tryz.ntmps80
      go_wp2_with (first
        | (go_at_call 96; refine (known_any H.out).mono ?_; rintro e w2 ⟨rfl, rfl⟩)
        | ((with_reducible show wpList _ _ _ (_ :: _) _ _); refine wpl_mlook rfl 118 (.tmp 21) (.tmp 22) rfl keyed_int Tryz.underlying118 H.out.map rfl id rfl (Tryz.zeroValue119) (klI_inj id) (keyOf_kvI HD.out) ?_; rw [HV.out])
        | ((with_reducible show wpList _ _ _ (_ :: _) _ _); refine wpl_mlen rfl 118 (.tmp 29) rfl Tryz.underlying118 H.out.map rfl ?_))
      go_ret
      unfold SnapPost
      rw [HE.out]
      exact ⟨rfl, Tch.refl _ _, .inl ⟨by decide, H.out⟩⟩
    · have HE := Lib.hid (show snapE M id = 0 by unfold snapE; rw [if_neg (by omega), HN.out, if_neg (by simp), if_neg h8])
      have h8I : ¬ (8 : Int) ≤ (M.length : Int) := by omega
      have HM := Lib.hid (show M.length < maxLen by unfold maxLen; omega)
      go_enter Tryz.func80, Tryz.ntmps80
      go_upto_region 9 with (first
        | (go_at_call 96; refine (known_any H.out).mono ?_; rintro e w2 ⟨rfl, rfl⟩)
        | ((with_reducible show wpList _ _ _ (_ :: _) _ _); refine wpl_mlook rfl 118 (.tmp 21) (.tmp 22) rfl keyed_int Tryz.underlying118 H.out.map rfl id rfl (Tryz.zeroValue119) (klI_inj id) (keyOf_kvI HD.out) ?_; rw [HV.out])
        | ((with_reducible show wpList _ _ _ (_ :: _) _ _); refine wpl_mlen rfl 118 (.tmp 29) rfl Tryz.underlying118 H.out.map rfl ?_))
      go_upto_region 10 with (first
        | ((with_reducible show wpList _ _ _ (_ :: _) _ _); refine wpList_load_mid rfl 121 (.tmp 34) rfl mi 1 rfl (oneC f) _ (mapsC_rng H.out.blk) Tryz.underlying121 rfl (oneC_info f) ?_)
        | ((with_reducible show wpList _ _ _ (_ :: _) _ _); refine wpl_alloc rfl 121 rfl Tryz.zeroValue121 17408 zero_one_len ?_; intro w1 cs hk hc hg hz; have K := Lib.hid hk; have C := Lib.hid hc; have G := Lib.hid hg; have Z := Lib.hid hz; clear hk hc hg hz)
        | ((with_reducible show wpList _ _ _ (_ :: _) _ _); refine wpl_over rfl 121 (.tmp 5) (.tmp 35) rfl w.heap.size (oneC f) rfl rfl _ cs K.out (oneC_info f) (by rw [oneC_len, C.out]) (oneC_one f) ?_; intro w2 hk hg hz; have K2 := Lib.hid hk; have L2 := Lib.hid (bl_g (bl_n (Below.refl _ _) G.out) hg (Nat.le_refl _)); clear hk hg hz))
      have H2 := Lib.hid (H.out.below L2.out)
      have c2 := H2.out.s_cell
      go_wp2_with ((with_reducible show wpList _ _ _ (_ :: _) _ _); refine wpl_mput rfl 118 (.tmp 39) (.tmp 40) (.tmp 5) rfl keyed_int Tryz.underlying118 H2.out.map HM.out rfl id rfl (w.heap.size, f) rfl (klI_inj id) (keyOf_kvI HD.out) ?_; intro w3 hm hg; have M3 := Lib.hid hm; have G3 := Lib.hid hg; clear hm hg)
      go_ret
      unfold SnapPost
      rw [HE.out]
      have hT : Tch [bs] w2 w3 := Tch.grown G3.out (fun k hk => by injection hk with hk; subst hk; exact .inl (by simp))
      refine ⟨rfl, (Tch.below L2.out).trans hT, .inr ⟨rfl, w.heap.size, ⟨H2.out.blk.grown G3.out ?_, M3.out, fun p hp => ?_, H2.out.low, H2.out.high⟩, Nat.le_refl _⟩⟩
      · have := blk_ne_map H2.out.map H2.out.blk
        simp
        exact this
      · have hb : Blk w2 p.2.1 121 (oneC p.2.2).toArray := by
          rcases List.mem_cons.1 hp with e | hp
          · rw [e]; exact K2.out
          · exact H2.out.each p (List.mem_filter.1 hp).1
        refine hb.grown G3.out ?_
        have := blk_ne_map H2.out.map hb
        simp
        exact this
def dropE (M : SnM) (id : Int) : Int := if (aget M id).isSome then 0 else 13
def DropPost (mi bs n : Nat) (f : MpF) (M : SnM) (id : Int) (w : World) (e : Ending) (w' : World) : Prop := e = .returned (.int .i64 (dropE M id)) ∧ Tch [bs] w w' ∧ MapsIs w' mi bs n f (adel M id)
theorem drop_any {w : World} {mi bs n : Nat} {f : MpF} {M : SnM} (h : MapsIs w mi bs n f M) (id : Int) (hid : -9223372036854775808 ≤ id ∧ id ≤ 9223372036854775807) :
    Calls Tryz.prog 93 #[.pointer (some ⟨mi, 0, none⟩), .int .i64 id] w (DropPost mi bs n f M id w) := by
  have H := Lib.hid h
  have c0 := h.s_cell
  clear h
  have HD := Lib.hid hid
  clear hid
  cases hq : aget M id with
  | some p =>
    have HE := Lib.hid (show dropE M id = 0 by unfold dropE; rw [hq]; rfl)
    have hval : ((aget M id).map veP).getD (.pointer none) = .pointer (some ⟨p.1, 0, none⟩) := by rw [hq]; rfl
    have HV := Lib.hid hval
    clear hq hval
    go_enter Tryz.func93, Tryz.ntmps93
    go_wp2_with (first
      | (go_at_call 96; refine (known_any H.out).mono ?_; rintro e w2 ⟨rfl, rfl⟩)
      | ((with_reducible show wpList _ _ _ (_ :: _) _ _); refine wpl_mlook rfl 118 (.tmp 13) (.tmp 14) rfl keyed_int Tryz.underlying118 H.out.map rfl id rfl (Tryz.zeroValue119) (klI_inj id) (keyOf_kvI HD.out) ?_; rw [HV.out])
      | ((with_reducible show wpList _ _ _ (_ :: _) _ _); refine wpl_mdel rfl 118 (.tmp 20) (.tmp 21) rfl keyed_int Tryz.underlying118 H.out.map rfl id rfl (klI_inj id) (keyOf_kvI HD.out) ?_; intro w3 hm hg; have M3 := Lib.hid hm; have G3 := Lib.hid hg; clear hm hg))
    go_ret
    unfold DropPost
    rw [HE.out]
    have hT : Tch [bs] w w3 := Tch.grown G3.out (fun k hk => by injection hk with hk; subst hk; exact .inl (by simp))
    refine ⟨rfl, hT, ⟨H.out.blk.grown G3.out ?_, M3.out, fun p hp => ?_, H.out.low, H.out.high⟩⟩
    · have := blk_ne_map H.out.map H.out.blk
      simp
      exact this
    · have hb := H.out.each p (List.mem_filter.1 hp).1
      refine hb.grown G3.out ?_
      have := blk_ne_map H.out.map hb
      simp
      exact this
  | none =>
    have HE := Lib.hid (show dropE M id = 13 by unfold dropE; rw [hq]; rfl)
    have hval : ((aget M id).map veP).getD (.pointer none) = .pointer none := by rw [hq]; rfl
    have HV := Lib.hid hval
    have HN := Lib.hid hq
    clear hq hval
    go_enter Tryz.func93, Tryz.ntmps93
    go_wp2_with (first
      | (go_at_call 96; refine (known_any H.out).mono ?_; rintro e w2 ⟨rfl, rfl⟩)
      | ((with_reducible show wpList _ _ _ (_ :: _) _ _); refine wpl_mlook rfl 118 (.tmp 13) (.tmp 14) rfl keyed_int Tryz.underlying118 H.out.map rfl id rfl (Tryz.zeroValue119) (klI_inj id) (keyOf_kvI HD.out) ?_; rw [HV.out]))
    go_ret
    unfold DropPost
    rw [HE.out, adel_none HN.out]
    exact ⟨rfl, Tch.refl _ _, H.out⟩
def backF (f : MpF) (M : SnM) (id : Int) : MpF := match aget M id with | some p => p.2 | none => f
def BackPost (mi bs n : Nat) (f : MpF) (M : SnM) (id : Int) (w : World) (e : Ending) (w' : World) : Prop := e = .returned (.int .i64 (dropE M id)) ∧ Tch [mi] w w' ∧ MapsIs w' mi bs n (backF f M id) M
theorem back_maps {w : World} {mi bs n : Nat} {f : MpF} {M : SnM} (h : MapsIs w mi bs n f M) (id : Int) (hid : -9223372036854775808 ≤ id ∧ id ≤ 9223372036854775807) :
    Calls Tryz.prog 94 #[.pointer (some ⟨mi, 0, none⟩), .int .i64 id] w (BackPost mi bs n f M id w) := by
  have H := Lib.hid h
  have c0 := h.s_cell
  clear h
  have HD := Lib.hid hid
  clear hid
  cases hq : aget M id with
  | some p =>
    have HE := Lib.hid (show dropE M id = 0 by unfold dropE; rw [hq]; rfl)
    have HF := Lib.hid (show backF f M id = p.2 by unfold backF; rw [hq])
    have hval : ((aget M id).map veP).getD (.pointer none) = .pointer (some ⟨p.1, 0, none⟩) := by rw [hq]; rfl
    have HV := Lib.hid hval
    have HB := Lib.hid (show w.rangeAt p.1 0 (oneC p.2) by have := (H.out.each _ (aget_mem hq)).range; rwa [toArr] at this)
    clear hq hval
    go_enter Tryz.func94, Tryz.ntmps94
    go_wp2_with (first
      | (go_at_call 96; refine (known_any H.out).mono ?_; rintro e w2 ⟨rfl, rfl⟩)
      | ((with_reducible show wpList _ _ _ (_ :: _) _ _); refine wpl_mlook rfl 118 (.tmp 13) (.tmp 14) rfl keyed_int Tryz.underlying118 H.out.map rfl id rfl (Tryz.zeroValue119) (klI_inj id) (keyOf_kvI HD.out) ?_; rw [HV.out])
      | ((with_reducible show wpList _ _ _ (_ :: _) _ _); refine wpl_mlook rfl 118 (.tmp 21) (.tmp 22) rfl keyed_int Tryz.underlying118 H.out.map rfl id rfl (Tryz.zeroValue119) (klI_inj id) (keyOf_kvI HD.out) ?_; rw [HV.out])
      | ((with_reducible show wpList _ _ _ (_ :: _) _ _); refine wpList_load_mid rfl 121 (.tmp 24) rfl p.1 0 rfl (oneC p.2) _ HB.out Tryz.underlying121 rfl (oneC_info p.2) ?_)
      | ((with_reducible show wpList _ _ _ (_ :: _) _ _); refine wpl_put rfl 121 (.tmp 27) (.tmp 25) rfl mi 1 (oneC p.2) rfl rfl _ _ H.out.blk (oneC_info p.2) (by rw [List.size_toArray, mapsC_len, oneC_len]; omega) (oneC_one p.2) ?_; intro w3 hk hg hz; have K3 := Lib.hid hk; have G3 := Lib.hid hg; clear hk hg hz))
    go_ret
    unfold BackPost
    rw [HE.out, HF.out]
    have K := K3.out
    rw [mapsC_over] at K
    exact ⟨rfl, Tch.grown G3.out (fun k hk => by injection hk with hk; subst hk; exact .inl (by simp)), H.out.set K G3.out⟩
  | none =>
    have HE := Lib.hid (show dropE M id = 13 by unfold dropE; rw [hq]; rfl)
    have HF := Lib.hid (show backF f M id = f by unfold backF; rw [hq])
    have hval : ((aget M id).map veP).getD (.pointer none) = .pointer none := by rw [hq]; rfl
    have HV := Lib.hid hval
    clear hq hval
    go_enter Tryz.func94, Tryz.ntmps94
    go_wp2_with (first
      | (go_at_call 96; refine (known_any H.out).mono ?_; rintro e w2 ⟨rfl, rfl⟩)
      | ((with_reducible show wpList _ _ _ (_ :: _) _ _); refine wpl_mlook rfl 118 (.tmp 13) (.tmp 14) rfl keyed_int Tryz.underlying118 H.out.map rfl id rfl (Tryz.zeroValue119) (klI_inj id) (keyOf_kvI HD.out) ?_; rw [HV.out]))
    go_ret
    unfold BackPost
    rw [HE.out, HF.out]
    exact ⟨rfl, Tch.refl _ _, H.out⟩
end Go.Proofs.YtgjjdfhoakailaaGreat
namespace Go.Proofs.YtgjjdfhoakailaaGreat
open Go.RowKit Go.Maps
set_option linter.unusedVariables false
set_option linter.unusedSimpArgs false

/-- Bits taken out of a mask. -/
def anM (m x : Int) : Int := IntKind.i64.wrap ((BitVec.ofInt 64 m &&& ~~~ BitVec.ofInt 64 x).toNat)
def clr1 (s : Sl) (frm to_ : Nat) : Sl := if anM s.mask ((2 : Int) ^ to_ - (2 : Int) ^ frm) = 0 then zSl else ⟨s.key, s.off, anM s.mask ((2 : Int) ^ to_ - (2 : Int) ^ frm)⟩
def clrTo (at_ en : Nat) : Nat := min 8 (at_ % 8 + (en - at_))
/-- What Clear makes of the current map. -/
def clrGo : Nat → MpF → Nat → Nat → MpF
  | 0, f, _, _ => f
  | k + 1, f, at_, en => if at_ < en then clrGo k (upd f (at_ / 8) (clr1 (f (at_ / 8)) (at_ % 8) (clrTo at_ en))) (at_ + (clrTo at_ en - at_ % 8)) en else f
theorem clrGo_done (k : Nat) (f : MpF) (a e : Nat) (h : e ≤ a) : clrGo k f a e = f := by
  cases k with
  | zero => rfl
  | succ k => exact if_neg (by omega)
theorem clrGo_more (k : Nat) (f : MpF) (a e : Nat) (h : e ≤ a + k) : clrGo (k + 1) f a e = clrGo k f a e := by
  induction k generalizing f a with
  | zero => exact clrGo_done 1 f a e h
  | succ k ih =>
    rw [clrGo]
    conv => rhs; rw [clrGo]
    split
    · have ht : a % 8 < clrTo a e := by unfold clrTo; omega
      exact ih _ _ (by omega)
    · rfl
theorem clrGo_fuel (k d : Nat) (f : MpF) (a e : Nat) (h : e ≤ a + k) : clrGo (k + d) f a e = clrGo k f a e := by
  induction d with
  | zero => rfl
  | succ d ih => rw [← Nat.add_assoc, clrGo_more _ _ _ _ (by omega), ih]
theorem clr_step {g : MpF} {p en gk t : Nat} {F : MpF} {v : Int} (h : clrGo gk g p en = F) (hp : p < en) (hk : en ≤ p + gk) (ht : clrTo p en = t) (h8 : t ≤ 8 ∧ p % 8 < t) (hv : v = anM (g (p / 8)).mask ((2 : Int) ^ t - (2 : Int) ^ (p % 8))) :
    clrGo (en - (p + (t - p % 8))) (upd g (p / 8) (if v = 0 then zSl else ⟨(g (p / 8)).key, (g (p / 8)).off, v⟩)) (p + (t - p % 8)) en = F := by
  rw [← h]
  obtain ⟨k, rfl⟩ : ∃ k, gk = k + 1 := ⟨gk - 1, by omega⟩
  rw [clrGo, if_pos hp, ht]
  have e1 : clr1 (g (p / 8)) (p % 8) t = if v = 0 then zSl else ⟨(g (p / 8)).key, (g (p / 8)).off, v⟩ := by
    unfold clr1
    rw [← hv]
  rw [e1]
  obtain ⟨d, hd⟩ : ∃ d, k = en - (p + (t - p % 8)) + d := ⟨k - (en - (p + (t - p % 8))), by omega⟩
  rw [hd, clrGo_fuel _ _ _ _ _ (by omega)]
def clrE (n : Nat) (at_ m : Int) : Int := if at_ < 0 ∨ m < 0 ∨ (n : Int) * 8 < at_ ∨ (n : Int) * 8 - at_ < m then 2 else 0
def clrF (n : Nat) (f : MpF) (at_ m : Int) : MpF := if clrE n at_ m = 0 then clrGo m.toNat f at_.toNat (at_.toNat + m.toNat) else f
def ClrPost (mi bs n : Nat) (f : MpF) (M : SnM) (at_ m : Int) (w : World) (e : Ending) (w' : World) : Prop := e = .returned (.int .i64 (clrE n at_ m)) ∧ MapsIs w' mi bs n (clrF n f at_ m) M ∧ Tch [mi] w w'
def ClrI (mi bs n : Nat) (M : SnM) (en : Nat) (F : MpF) (w : World) (k : Nat) (av : Value) (wr : World) : Prop :=
  ∃ (p : Nat) (g : MpF), av = .int .i64 (p : Int) ∧ p ≤ en ∧ en ≤ p + k ∧ p + k ≤ en ∧ MapsIs wr mi bs n g M ∧ clrGo k g p en = F ∧ Tch [mi] w wr
theorem shl_run {P : Program} {o : Oper} {a : Act} {y : Operand} {ty : TypeId} (ho : o.op = .binOp .shl ty (.const (.int .i64 1)) y ty) {T : Int} (hy : a.eval y = .int .i64 T) {t : Nat} (hT : T = (t : Int)) (ht : t ≤ 8) (w : World) :
    (execOp a.eval o).run P w = .ok (.value (.int .i64 ((2 : Int) ^ t))) w := by
  subst hT
  have e1 : a.eval (.const (.int .i64 1)) = .int .i64 1 := rfl
  unfold execOp
  simp only [ho, hy, e1]
  rcases (by omega : t = 0 ∨ t = 1 ∨ t = 2 ∨ t = 3 ∨ t = 4 ∨ t = 5 ∨ t = 6 ∨ t = 7 ∨ t = 8) with rfl | rfl | rfl | rfl | rfl | rfl | rfl | rfl | rfl <;> rfl
theorem andNot_run {P : Program} {o : Oper} {a : Act} {x y : Operand} {ty : TypeId} (ho : o.op = .binOp .andNot ty x y ty) {m X : Int} (hx : a.eval x = .int .i64 m) (hy : a.eval y = .int .i64 X) (w : World) :
    (execOp a.eval o).run P w = .ok (.value (.int .i64 (anM m X))) w := by
  unfold execOp
  simp only [ho, hx, hy]
  rfl
theorem slC_set (s : Sl) (m : Int) : (slC s).set 33 (.int .i64 m) = slC ⟨s.key, s.off, m⟩ := by
  unfold slC
  rw [List.set_append_right _ _ (by rw [keyL_len]; omega), keyL_len]
  rfl
theorem mapsC_mask (n : Nat) (f : MpF) (bs u : Nat) (hu : u < 512) (m : Int) : (mapsC n f bs).toArray.setIfInBounds (1 + u * 34 + 33) (.int .i64 m) = (mapsC n (upd f u ⟨(f u).key, (f u).off, m⟩) bs).toArray := by
  obtain ⟨A, B, hA, hB⟩ := oneC_cut f u hu
  have h0 := hB (f u)
  rw [upd_self] at h0
  rw [List.setIfInBounds_toArray]
  refine congrArg List.toArray ?_
  unfold mapsC
  rw [h0, hB]
  rw [show 1 + u * 34 + 33 = (u * 34 + 33) + 1 by omega, List.set_cons_succ, List.append_assoc, List.set_append_right _ _ (by omega), hA, Nat.add_sub_cancel_left, List.append_assoc, List.set_append_left _ _ (by rw [slC_len]; omega), slC_set]
  simp
theorem upd_twice (f : MpF) (u : Nat) (s t : Sl) : upd (upd f u s) u t = upd f u t := by
  funext v
  unfold upd
  split <;> rfl
theorem upd_at (f : MpF) (u : Nat) (s : Sl) : upd f u s u = s := by simp [upd]
theorem pow_b {t : Nat} (h : t ≤ 8) : (1 : Int) ≤ 2 ^ t ∧ (2 : Int) ^ t ≤ 256 := by
  rcases (by omega : t = 0 ∨ t = 1 ∨ t = 2 ∨ t = 3 ∨ t = 4 ∨ t = 5 ∨ t = 6 ∨ t = 7 ∨ t = 8) with rfl | rfl | rfl | rfl | rfl | rfl | rfl | rfl | rfl <;> decide
set_option maxRecDepth 100000 in
set_option maxHeartbeats 1000000 in
theorem clear_any {w : World} {mi bs n : Nat} {f : MpF} {M : SnM} (h : MapsIs w mi bs n f M) (at_ m : Int) :
    Calls Tryz.prog 81 #[.pointer (some ⟨mi, 0, none⟩), .int .i64 at_, .int .i64 m] w (ClrPost mi bs n f M at_ m w) := by
  have H := Lib.hid h
  have hn := h.high
  have c0 := h.n_cell
  clear h
  by_cases h1 : at_ < 0
  · have HE := Lib.hid (show clrE n at_ m = 2 from if_pos (by omega))
    go_enter Tryz.func81, Tryz.ntmps81
    go_wp2_with (go_at_call 96; refine (known_any H.out).mono ?_; rintro e w2 ⟨rfl, rfl⟩)
    go_ret
    unfold ClrPost clrF
    rw [HE.out, if_neg (by decide)]
    exact ⟨rfl, H.out, Tch.refl _ _⟩
  by_cases h2 : m < 0
  · have HE := Lib.hid (show clrE n at_ m = 2 from if_pos (by omega))
    go_enter Tryz.func81, Tryz.ntmps81
    go_wp2_with (go_at_call 96; refine (known_any H.out).mono ?_; rintro e w2 ⟨rfl, rfl⟩)
    go_ret
    unfold ClrPost clrF
    rw [HE.out, if_neg (by decide)]
    exact ⟨rfl, H.out, Tch.refl _ _⟩
  by_cases h3 : (n : Int) * 8 < at_
  · have HE := Lib.hid (show clrE n at_ m = 2 from if_pos (by omega))
    go_enter Tryz.func81, Tryz.ntmps81
    go_wp2_with (go_at_call 96; refine (known_any H.out).mono ?_; rintro e w2 ⟨rfl, rfl⟩)
    go_ret
    unfold ClrPost clrF
    rw [HE.out, if_neg (by decide)]
    exact ⟨rfl, H.out, Tch.refl _ _⟩
  by_cases h4 : (n : Int) * 8 - at_ < m
  · have HE := Lib.hid (show clrE n at_ m = 2 from if_pos (by omega))
    go_enter Tryz.func81, Tryz.ntmps81
    go_wp2_with (go_at_call 96; refine (known_any H.out).mono ?_; rintro e w2 ⟨rfl, rfl⟩)
    go_ret
    unfold ClrPost clrF
    rw [HE.out, if_neg (by decide)]
    exact ⟨rfl, H.out, Tch.refl _ _⟩
  obtain ⟨a, rfl⟩ : ∃ a : Nat, at_ = (a : Int) := ⟨at_.toNat, by omega⟩
  obtain ⟨b, rfl⟩ : ∃ b : Nat, m = (b : Int) := ⟨m.toNat, by omega⟩
  have HE := Lib.hid (show clrE n a b = 0 from if_neg (by omega))
  obtain ⟨F, hF⟩ : ∃ F, F = clrF n f a b := ⟨_, rfl⟩
  have HF := Lib.hid (show clrGo b f a (a + b) = F by rw [hF]; unfold clrF; rw [HE.out, if_pos rfl, Int.toNat_natCast, Int.toNat_natCast])
  have HF2 := Lib.hid hF
  clear hF
  go_enter Tryz.func81, Tryz.ntmps81
  go_wp2_with (go_at_call 96; refine (known_any H.out).mono ?_; rintro e w2 ⟨rfl, rfl⟩)
  go_loopg [1] b (fun k av wr => ClrI mi bs n M (a + b) F w k av wr)
  case atStart => exact ⟨a, f, rfl, by omega, by omega, by omega, H.out, HF.out, Tch.refl _ _⟩
  case round =>
    obtain ⟨p, g, rfl, p1, p2, p3, hm, hF, hT⟩ := hrel
    have M1 := Lib.hid hm
    have F1 := Lib.hid hF
    have T1 := Lib.hid hT
    clear hm hF hT
    by_cases hp : p < a + b
    · have hpI : (p : Int) < (a : Int) + (b : Int) := by omega
      have hp8 : p / 8 < 512 := by omega
      have CM := Lib.hid (show wr.drew.cell? ⟨mi, 1 + p / 8 * 34 + 33, none⟩ = some (.int .i64 (g (p / 8)).mask) from M1.out.blk.drew.cell (by rw [mapsC_cell n g bs (p / 8) 33 hp8 (by omega)]; exact slC_mask _))
      by_cases hX : p % 8 + (a + b - p) < 8
      · have hX1 : (p : Int) % 8 + ((a : Int) + (b : Int)) - (p : Int) < 8 := by omega
        have hX2 : ¬ 8 ≤ (p : Int) % 8 + ((a : Int) + (b : Int)) - (p : Int) := by omega
        obtain ⟨X, hXe⟩ : ∃ X, X = p % 8 + (a + b - p) := ⟨_, rfl⟩
        rw [← hXe] at hX
        have HXe := Lib.hid hXe
        clear hXe
        have HT := Lib.hid (show clrTo p (a + b) = X by unfold clrTo; have := HXe.out; omega)
        have htb : X ≤ 8 ∧ p % 8 < X := by have := HXe.out; omega
        have hfr : p % 8 ≤ 8 := by omega
        have hA := pow_b htb.1
        have hB := pow_b hfr
        have HA := Lib.hid (rfl : (2 : Int) ^ (X) = (2 : Int) ^ (X))
        obtain ⟨A, hAe⟩ : ∃ A : Int, A = (2 : Int) ^ (X) := ⟨_, rfl⟩
        obtain ⟨B, hBe⟩ : ∃ B : Int, B = (2 : Int) ^ (p % 8) := ⟨_, rfl⟩
        rw [← hAe] at hA
        rw [← hBe] at hB
        have HAe := Lib.hid hAe
        have HBe := Lib.hid hBe
        clear hAe hBe HA
        obtain ⟨hA1, hA2⟩ := hA
        obtain ⟨hB1, hB2⟩ := hB
        go_wp2_with fail
        refine wp_region_qs (fun j w' => j ≤ 0 → w'.cell? ⟨mi, 1 + p / 8 * 34 + 33, none⟩ = some (.int .i64 (g (p / 8)).mask)) [(0, some 0), (1, some 0), (2, some 0), (3, some 0), (4, some 0), (5, some 0), (6, some 0), (7, some 0), (8, some 0), (9, some 0), (10, some 1), (11, some 0), (12, none)] (by kernel_rfl) (by kernel_rfl) (by kernel_rfl) (by kernel_rfl) (by kernel_rfl) (fun _ _ _ _ _ h => h) (fun _ => CM.out) ?_
        simp only [List.map_cons, List.map_nil, List.getD_cons_succ, List.getD_cons_zero]
        have cmx := CM.out
        have cf := M1.out.blk.drew.free (1 + p / 8 * 34 + 33)
        (repeat (first | ((first | (refine qs_mid (v := .int .i64 (g (p / 8)).mask) (by rfl) ?_ ?_; rotate_left 1; (· (intro j w' h1 h2 hS; have hS2 := hS h2; clear hS; go_simp; done))) | (refine qs_mid (v := .int .i64 B) (by rfl) (fun j w' _ _ _ => by rw [HBe.out]; exact shl_run rfl (y := .tmp 66) rfl (t := p % 8) (by omega) (by omega) w') ?_) | (refine qs_mid (v := .int .i64 A) (by rfl) (fun j w' _ _ _ => by rw [HAe.out]; exact shl_run rfl (y := .tmp 64) rfl (t := X) (by have := HXe.out; omega) (by omega) w') ?_) | (refine qs_mid (v := .int .i64 (anM (g (p / 8)).mask (A - B))) (by rfl) (fun j w' _ _ _ => andNot_run rfl rfl rfl w') ?_)); simp only [Act.put, List.setIfInBounds_toArray, List.set_cons_zero, List.set_cons_succ]) | (refine qs_now (v := ?_) (by rfl) ?_ ?_; rotate_left 1; (· (intro w' hS; go_simp; (try (simp only [↓IntWalk.iteOmega]; go_simp)); (try simp (disch := omega) only [IntWalk.i64_in]); try with_reducible rfl)); simp only [Act.put, List.setIfInBounds_toArray, List.set_cons_zero, List.set_cons_succ]) | (refine qs_run (v := ?_) (by rfl) ?_ ?_; rotate_left 1; (· (intro j w' hS; go_simp; (try (simp only [↓IntWalk.iteOmega]; go_simp)); (try simp (disch := omega) only [IntWalk.i64_in]); try with_reducible rfl)); simp only [Act.put, List.setIfInBounds_toArray, List.set_cons_zero, List.set_cons_succ]) | (refine qs_mid (v := ?_) (by rfl) ?_ ?_; rotate_left 1; (· (intro j w' hj1 hj2 hS; go_simp; (try (simp only [↓IntWalk.iteOmega]; go_simp)); (try simp (disch := omega) only [IntWalk.i64_in]); try with_reducible rfl)); simp only [Act.put, List.setIfInBounds_toArray, List.set_cons_zero, List.set_cons_succ]) | (refine qs_skip (by rfl) ?_; simp only [Act.put, List.setIfInBounds_toArray, List.set_cons_zero, List.set_cons_succ])))
        refine qs_act ?_
        obtain ⟨v, hv⟩ : ∃ v, v = anM (g (p / 8)).mask (A - B) := ⟨_, rfl⟩
        rw [← hv]
        have HV := Lib.hid (show v = anM (g (p / 8)).mask ((2 : Int) ^ (X) - (2 : Int) ^ (p % 8)) by rw [hv, HAe.out, HBe.out])
        clear hv
        go_wp2_with fail
        refine ⟨fun h => absurd h (by omega), ?_⟩
        refine qs_nil ?_
        obtain ⟨w2, hw2⟩ : ∃ w2, w2 = (wr.setCell ⟨mi, 1 + p / 8 * 34 + 33, none⟩ (.int .i64 v)).drew := ⟨_, rfl⟩
        have K2 := (M1.out.blk.put (1 + p / 8 * 34 + 33) (.int .i64 v)).drew
        rw [mapsC_mask n g bs (p / 8) hp8 v, ← hw2] at K2
        have G2 : wr.grownBy w2 (some mi) := by
          have := grown_put wr ⟨mi, 1 + p / 8 * 34 + 33, none⟩ (.int .i64 v)
          rw [hw2]
          exact ⟨this.os, this.tape, this.output, this.size, this.block⟩
        have M2 := Lib.hid (M1.out.set K2 G2)
        have T2 := Lib.hid (T1.out.trans (Tch.grown G2 (fun k hk => by injection hk with hk; subst hk; exact .inl (by simp))))
        rw [← hw2]
        clear hw2 K2 G2 cmx cf
        have cm2 : w2.cell? ⟨mi, 1 + p / 8 * 34 + 33, none⟩ = some (.int .i64 v) := M2.out.blk.cell (by rw [mapsC_cell n _ bs (p / 8) 33 hp8 (by omega), upd_at]; exact slC_mask _)
        by_cases hv0 : v = 0
        · rw [hv0] at cm2
          have HV0 := Lib.hid hv0
          clear hv0
          go_wp2_with (first
            | ((with_reducible show wpList _ _ _ (_ :: _) _ _); refine wpl_mk rfl 54 #[] rfl [] rfl _ built_zSl ?_)
            | ((with_reducible show wpList _ _ _ (_ :: _) _ _); refine wpl_put rfl 54 (.tmp 79) (.tmp 78) rfl mi (1 + p / 8 * 34) (slC zSl) rfl rfl _ _ M2.out.blk (slC_info zSl) (by rw [List.size_toArray, mapsC_len, slC_len]; omega) (slC_one zSl) ?_; intro w3 hk hg hz; have K3 := Lib.hid hk; have G3 := Lib.hid hg; clear hk hg hz))
          go_roundg (a + b - (p + (X - p % 8)))
          case measure => have := HXe.out; omega
          case rel =>
            have K := K3.out
            rw [mapsC_put n _ bs (p / 8) hp8, upd_twice] at K
            have := clr_step F1.out hp p2 HT.out htb HV.out
            rw [if_pos HV0.out] at this
            exact ⟨p + (X - p % 8), _, by have := HXe.out; congr 1; omega, by have := HXe.out; omega, by have := HXe.out; omega, by have := HXe.out; omega, M2.out.set K G3.out, this, T2.out.trans (Tch.grown G3.out (fun k hk => by injection hk with hk; subst hk; exact .inl (by simp)))⟩
        · have ev : (v == 0) = false := beq_eq_false_iff_ne.2 hv0
          go_wp2_with fail
          go_roundg (a + b - (p + (X - p % 8)))
          case measure => have := HXe.out; omega
          case rel =>
            have := clr_step F1.out hp p2 HT.out htb HV.out
            rw [if_neg hv0] at this
            exact ⟨p + (X - p % 8), _, by have := HXe.out; congr 1; omega, by have := HXe.out; omega, by have := HXe.out; omega, by have := HXe.out; omega, M2.out, this, T2.out⟩
      · have hX1 : ¬ (p : Int) % 8 + ((a : Int) + (b : Int)) - (p : Int) < 8 := by omega
        have hX2 : 8 ≤ (p : Int) % 8 + ((a : Int) + (b : Int)) - (p : Int) := by omega
        have HXe := Lib.hid (show 8 ≤ p % 8 + (a + b - p) by omega)
        have HT := Lib.hid (show clrTo p (a + b) = 8 by unfold clrTo; have := HXe.out; omega)
        have htb : 8 ≤ 8 ∧ p % 8 < 8 := by have := HXe.out; omega
        have hfr : p % 8 ≤ 8 := by omega
        have hA := pow_b htb.1
        have hB := pow_b hfr
        have HA := Lib.hid (rfl : (2 : Int) ^ (8) = (2 : Int) ^ (8))
        obtain ⟨A, hAe⟩ : ∃ A : Int, A = (2 : Int) ^ (8) := ⟨_, rfl⟩
        obtain ⟨B, hBe⟩ : ∃ B : Int, B = (2 : Int) ^ (p % 8) := ⟨_, rfl⟩
        rw [← hAe] at hA
        rw [← hBe] at hB
        have HAe := Lib.hid hAe
        have HBe := Lib.hid hBe
        clear hAe hBe HA
        obtain ⟨hA1, hA2⟩ := hA
        obtain ⟨hB1, hB2⟩ := hB
        go_wp2_with fail
        refine wp_region_qs (fun j w' => j ≤ 0 → w'.cell? ⟨mi, 1 + p / 8 * 34 + 33, none⟩ = some (.int .i64 (g (p / 8)).mask)) [(0, some 0), (1, some 0), (2, some 0), (3, some 0), (4, some 0), (5, some 0), (6, some 0), (7, some 0), (8, some 0), (9, some 0), (10, some 1), (11, some 0), (12, none)] (by kernel_rfl) (by kernel_rfl) (by kernel_rfl) (by kernel_rfl) (by kernel_rfl) (fun _ _ _ _ _ h => h) (fun _ => CM.out) ?_
        simp only [List.map_cons, List.map_nil, List.getD_cons_succ, List.getD_cons_zero]
        have cmx := CM.out
        have cf := M1.out.blk.drew.free (1 + p / 8 * 34 + 33)
        (repeat (first | ((first | (refine qs_mid (v := .int .i64 (g (p / 8)).mask) (by rfl) ?_ ?_; rotate_left 1; (· (intro j w' h1 h2 hS; have hS2 := hS h2; clear hS; go_simp; done))) | (refine qs_mid (v := .int .i64 B) (by rfl) (fun j w' _ _ _ => by rw [HBe.out]; exact shl_run rfl (y := .tmp 66) rfl (t := p % 8) (by omega) (by omega) w') ?_) | (refine qs_mid (v := .int .i64 A) (by rfl) (fun j w' _ _ _ => by rw [HAe.out]; exact shl_run rfl (y := .tmp 64) rfl (t := 8) (by have := HXe.out; omega) (by omega) w') ?_) | (refine qs_mid (v := .int .i64 (anM (g (p / 8)).mask (A - B))) (by rfl) (fun j w' _ _ _ => andNot_run rfl rfl rfl w') ?_)); simp only [Act.put, List.setIfInBounds_toArray, List.set_cons_zero, List.set_cons_succ]) | (refine qs_now (v := ?_) (by rfl) ?_ ?_; rotate_left 1; (· (intro w' hS; go_simp; (try (simp only [↓IntWalk.iteOmega]; go_simp)); (try simp (disch := omega) only [IntWalk.i64_in]); try with_reducible rfl)); simp only [Act.put, List.setIfInBounds_toArray, List.set_cons_zero, List.set_cons_succ]) | (refine qs_run (v := ?_) (by rfl) ?_ ?_; rotate_left 1; (· (intro j w' hS; go_simp; (try (simp only [↓IntWalk.iteOmega]; go_simp)); (try simp (disch := omega) only [IntWalk.i64_in]); try with_reducible rfl)); simp only [Act.put, List.setIfInBounds_toArray, List.set_cons_zero, List.set_cons_succ]) | (refine qs_mid (v := ?_) (by rfl) ?_ ?_; rotate_left 1; (· (intro j w' hj1 hj2 hS; go_simp; (try (simp only [↓IntWalk.iteOmega]; go_simp)); (try simp (disch := omega) only [IntWalk.i64_in]); try with_reducible rfl)); simp only [Act.put, List.setIfInBounds_toArray, List.set_cons_zero, List.set_cons_succ]) | (refine qs_skip (by rfl) ?_; simp only [Act.put, List.setIfInBounds_toArray, List.set_cons_zero, List.set_cons_succ])))
        refine qs_act ?_
        obtain ⟨v, hv⟩ : ∃ v, v = anM (g (p / 8)).mask (A - B) := ⟨_, rfl⟩
        rw [← hv]
        have HV := Lib.hid (show v = anM (g (p / 8)).mask ((2 : Int) ^ (8) - (2 : Int) ^ (p % 8)) by rw [hv, HAe.out, HBe.out])
        clear hv
        go_wp2_with fail
        refine ⟨fun h => absurd h (by omega), ?_⟩
        refine qs_nil ?_
        obtain ⟨w2, hw2⟩ : ∃ w2, w2 = (wr.setCell ⟨mi, 1 + p / 8 * 34 + 33, none⟩ (.int .i64 v)).drew := ⟨_, rfl⟩
        have K2 := (M1.out.blk.put (1 + p / 8 * 34 + 33) (.int .i64 v)).drew
        rw [mapsC_mask n g bs (p / 8) hp8 v, ← hw2] at K2
        have G2 : wr.grownBy w2 (some mi) := by
          have := grown_put wr ⟨mi, 1 + p / 8 * 34 + 33, none⟩ (.int .i64 v)
          rw [hw2]
          exact ⟨this.os, this.tape, this.output, this.size, this.block⟩
        have M2 := Lib.hid (M1.out.set K2 G2)
        have T2 := Lib.hid (T1.out.trans (Tch.grown G2 (fun k hk => by injection hk with hk; subst hk; exact .inl (by simp))))
        rw [← hw2]
        clear hw2 K2 G2 cmx cf
        have cm2 : w2.cell? ⟨mi, 1 + p / 8 * 34 + 33, none⟩ = some (.int .i64 v) := M2.out.blk.cell (by rw [mapsC_cell n _ bs (p / 8) 33 hp8 (by omega), upd_at]; exact slC_mask _)
        by_cases hv0 : v = 0
        · rw [hv0] at cm2
          have HV0 := Lib.hid hv0
          clear hv0
          go_wp2_with (first
            | ((with_reducible show wpList _ _ _ (_ :: _) _ _); refine wpl_mk rfl 54 #[] rfl [] rfl _ built_zSl ?_)
            | ((with_reducible show wpList _ _ _ (_ :: _) _ _); refine wpl_put rfl 54 (.tmp 79) (.tmp 78) rfl mi (1 + p / 8 * 34) (slC zSl) rfl rfl _ _ M2.out.blk (slC_info zSl) (by rw [List.size_toArray, mapsC_len, slC_len]; omega) (slC_one zSl) ?_; intro w3 hk hg hz; have K3 := Lib.hid hk; have G3 := Lib.hid hg; clear hk hg hz))
          go_roundg (a + b - (p + (8 - p % 8)))
          case measure => have := HXe.out; omega
          case rel =>
            have K := K3.out
            rw [mapsC_put n _ bs (p / 8) hp8, upd_twice] at K
            have := clr_step F1.out hp p2 HT.out htb HV.out
            rw [if_pos HV0.out] at this
            exact ⟨p + (8 - p % 8), _, by have := HXe.out; congr 1; omega, by have := HXe.out; omega, by have := HXe.out; omega, by have := HXe.out; omega, M2.out.set K G3.out, this, T2.out.trans (Tch.grown G3.out (fun k hk => by injection hk with hk; subst hk; exact .inl (by simp)))⟩
        · have ev : (v == 0) = false := beq_eq_false_iff_ne.2 hv0
          go_wp2_with fail
          go_roundg (a + b - (p + (8 - p % 8)))
          case measure => have := HXe.out; omega
          case rel =>
            have := clr_step F1.out hp p2 HT.out htb HV.out
            rw [if_neg hv0] at this
            exact ⟨p + (8 - p % 8), _, by have := HXe.out; congr 1; omega, by have := HXe.out; omega, by have := HXe.out; omega, by have := HXe.out; omega, M2.out, this, T2.out⟩
    · have hpI : ¬ (p : Int) < (a : Int) + (b : Int) := by omega
      go_wp2_with fail
      go_ret
      unfold ClrPost
      rw [HE.out, ← HF2.out, ← F1.out, clrGo_done _ _ _ _ (by omega)]
      exact ⟨rfl, M1.out, T1.out⟩
end Go.Proofs.YtgjjdfhoakailaaGreat
