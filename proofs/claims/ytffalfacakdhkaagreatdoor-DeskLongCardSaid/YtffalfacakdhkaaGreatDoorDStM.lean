/-
  what this claim needs of: StM (written by cut.py).
-/
import Derived.Test.YtffalfacakdhkaaGreatDoorDStW
import Derived.KernelRfl
namespace Go.Proofs.YtffalfacakdhkaaGreatDoor
open Go.RowKit Go.Maps
set_option linter.unusedVariables false
set_option linter.unusedSimpArgs false

theorem fm_len {f : Nat → List Value} {sz : Nat} (h : ∀ u, (f u).length = sz) (m : Nat) : ((List.range m).flatMap f).length = m * sz := by
 induction m with
 | zero => simp
 | succ m ih => rw [List.range_succ, List.flatMap_append, List.length_append, ih, List.flatMap_cons, List.flatMap_nil, List.append_nil, h, Nat.succ_mul]
theorem fm_cut {f : Nat → List Value} {sz : Nat} (h : ∀ u, (f u).length = sz) (m u : Nat) (hu : u < m) : ∃ A B, A.length = u * sz ∧ ∀ g : Nat → List Value, (∀ v, v ≠ u → g v = f v) → (List.range m).flatMap g = A ++ (g u ++ B) := by
 induction m with
 | zero => omega
 | succ m ih =>
  rcases Nat.lt_or_ge u m with h1 | h1
  ·obtain ⟨A, B, hA, hB⟩ := ih h1
   refine ⟨A, B ++ f m, hA, fun g hg => ?_⟩
   rw [List.range_succ, List.flatMap_append, hB g hg, List.flatMap_cons, List.flatMap_nil, List.append_nil, hg m (by omega)]
   simp
  ·have e : u = m := by omega
   subst e
   refine ⟨(List.range u).flatMap f, [], fm_len h u, fun g hg => ?_⟩
   rw [List.range_succ, List.flatMap_append, List.flatMap_cons, List.flatMap_nil, List.append_nil]
   congr 1
   rw [List.flatMap_def, List.flatMap_def]
   congr 1
   apply List.map_congr_left
   intro v hv
   exact hg v (by have := List.mem_range.1 hv; omega)
abbrev MpF := Nat → Sl
def upd (f : MpF) (u : Nat) (s : Sl) : MpF := fun v => if v = u then s else f v
def oneC (f : MpF) : List Value := (List.range 512).flatMap (fun u => slC (f u))
def mapsC (n : Nat) (f : MpF) (bs : Nat) : List Value := .int .i64 (n : Int) :: (oneC f ++ [.map (some bs)])
theorem toArr (l : List Value) : l.toArray.toList = l := by simp
theorem oneC_len (f : MpF) : (oneC f).length = 17408 := fm_len (sz := 34) (fun u => slC_len _) 512
theorem oneC_cut (f : MpF) (u : Nat) (hu : u < 512) : ∃ A B, A.length = u * 34 ∧ ∀ s, oneC (upd f u s) = A ++ (slC s ++ B) := by
 obtain ⟨A, B, hA, hB⟩ := fm_cut (f := fun u => slC (f u)) (sz := 34) (fun u => slC_len _) 512 u hu
 refine ⟨A, B, hA, fun s => ?_⟩
 have := hB (fun v => slC (upd f u s v)) (fun v hv => by simp [upd, hv])
 unfold oneC
 rw [this]
 simp [upd]
theorem upd_self (f : MpF) (u : Nat) : upd f u (f u) = f := by
 funext v
 unfold upd
 split
 ·rename_i h; rw [h]
 ·rfl
theorem oneC_part (f : MpF) (u : Nat) (hu : u < 512) : ((oneC f).drop (u * 34)).take 34 = slC (f u) := by
 obtain ⟨A, B, hA, hB⟩ := oneC_cut f u hu
 have := hB (f u)
 rw [upd_self] at this
 rw [this, ← hA, List.drop_left, List.take_append_of_le_length (by rw [slC_len]; exact Nat.le_refl _), List.take_of_length_le (by rw [slC_len]; exact Nat.le_refl _)]
theorem mapsC_part (n : Nat) (f : MpF) (bs u : Nat) (hu : u < 512) : ((mapsC n f bs).drop (1 + u * 34)).take 34 = slC (f u) := by
 unfold mapsC
 rw [Nat.add_comm, List.drop_succ_cons, List.drop_append_of_le_length (by rw [oneC_len]; omega), List.take_append_of_le_length (by rw [List.length_drop, oneC_len]; omega), oneC_part f u hu]
theorem mapsC_one (n : Nat) (f : MpF) (bs : Nat) : ((mapsC n f bs).drop 1).take 17408 = oneC f := by
 unfold mapsC
 rw [List.drop_succ_cons, List.drop_zero, List.take_append_of_le_length (by rw [oneC_len]; omega), List.take_of_length_le (by rw [oneC_len]; omega)]
theorem mapsC_snaps (n : Nat) (f : MpF) (bs : Nat) : (mapsC n f bs).toArray[17409]? = some (.map (some bs)) := by
 rw [List.getElem?_toArray]
 unfold mapsC
 rw [List.getElem?_cons_succ, List.getElem?_append_right (by rw [oneC_len]; omega), oneC_len]
 rfl
theorem mapsC_n (n : Nat) (f : MpF) (bs : Nat) : (mapsC n f bs).toArray[0]? = some (.int .i64 (n : Int)) := rfl
theorem slC_off (s : Sl) : (slC s)[32]? = some (.int .i64 s.off) := by
 unfold slC
 rw [List.getElem?_append_right (by rw [keyL_len]; omega), keyL_len]
 rfl
theorem slC_mask (s : Sl) : (slC s)[33]? = some (.int .i64 s.mask) := by
 unfold slC
 rw [List.getElem?_append_right (by rw [keyL_len]; omega), keyL_len]
 rfl
theorem oneC_cell (f : MpF) (u j : Nat) (hu : u < 512) (hj : j < 34) : (oneC f).toArray[u * 34 + j]? = (slC (f u))[j]? := by
 rw [List.getElem?_toArray, ← oneC_part f u hu, List.getElem?_take_of_lt hj, List.getElem?_drop]

/-- The maps in memory: M: each snapshot's number, its block, what it holds. -/
abbrev SnM := List (Int × (Nat × MpF))
def kvI (n : Int) : Value := .int .i64 n
def klI (n : Int) : Lit := .int .i64 n
def veP (p : Nat × MpF) : Value := .pointer (some ⟨p.1, 0, none⟩)
structure MapsIs (w : World) (mi bs n : Nat) (f : MpF) (M : SnM) : Prop where
 blk : Blk w mi 284 (mapsC n f bs).toArray
 map : MapIs Tryz.prog 3 kvI klI veP w bs M
 each : ∀ p ∈ M, Blk w p.2.1 282 (oneC p.2.2).toArray
 low : 1 ≤ n
 high : n ≤ 512
section
variable {w w' : World} {mi bs n : Nat} {f : MpF} {M : SnM}
theorem MapIs.obj {α β : Type} [DecidableEq α] {P : Program} {k : TypeId} {kv : α → Value} {kl : α → Lit} {ve : β → Value} {w : World} {b : Nat} {M : List (α × β)} (h : MapIs P k kv kl ve w b M) : ∃ es c, w.heap[b]? = some (.map es c) := by
 obtain ⟨es, ⟨es', clock, hb, _⟩, _⟩ := h
 exact ⟨_, _, hb⟩
theorem blk_ne_map {α β : Type} [DecidableEq α] {P : Program} {k : TypeId} {kv : α → Value} {kl : α → Lit} {ve : β → Value} {w : World} {b g : Nat} {t : TypeId} {cs : Array Value} {M : List (α × β)} (h : MapIs P k kv kl ve w b M) (hb : Blk w g t cs) : g ≠ b := by
 obtain ⟨es, c, e⟩ := h.obj
 rintro rfl
 unfold Blk at hb
 rw [e] at hb
 cases hb
theorem blk_ne_ty {w : World} {g g' : Nat} {t t' : TypeId} {cs cs' : Array Value} (h : Blk w g t cs) (h' : Blk w g' t' cs') (ht : t ≠ t') : g ≠ g' := by
 rintro rfl
 unfold Blk at h h'
 rw [h] at h'
 injection h' with h'
 injection h' with _ h'
 exact ht h'
theorem MapsIs.tch {T : List Nat} (h : MapsIs w mi bs n f M) (hb : Tch T w w') (h1 : mi ∉ T) (h2 : bs ∉ T) (h3 : ∀ p ∈ M, p.2.1 ∉ T) : MapsIs w' mi bs n f M :=
 ⟨h.blk.tch hb h1, h.map.tch hb h2, fun p hp => (h.each p hp).tch hb (h3 p hp), h.low, h.high⟩
theorem MapsIs.below (h : MapsIs w mi bs n f M) (hb : Below w.heap.size w w') : MapsIs w' mi bs n f M := h.tch (T := []) (Tch.below hb) (by simp) (by simp) (by simp)
theorem MapsIs.grown (h : MapsIs w mi bs n f M) (hg : w.grownBy w' none) : MapsIs w' mi bs n f M := h.tch (T := []) (Tch.grown hg (by simp)) (by simp) (by simp) (by simp)
theorem MapsIs.n_cell (h : MapsIs w mi bs n f M) : w.cell? ⟨mi, 0, none⟩ = some (.int .i64 (n : Int)) := h.blk.cell (mapsC_n n f bs)
theorem MapsIs.s_cell (h : MapsIs w mi bs n f M) : w.cell? ⟨mi, 17409, none⟩ = some (.map (some bs)) := h.blk.cell (mapsC_snaps n f bs)
end
theorem klI_inj {β : Type} {M : List (Int × β)} (x : Int) : ∀ p ∈ M, klI p.1 = klI x → p.1 = x := fun p _ h => by unfold klI at h; injection h
theorem keyOf_kvI {n : Int} (h : -9223372036854775808 ≤ n ∧ n ≤ 9223372036854775807) : keyOf Tryz.prog 3 (kvI n) = some (klI n) := keyOf_i64 h
theorem known_any {w : World} {mi bs n : Nat} {f : MpF} {M : SnM} (h : MapsIs w mi bs n f M) : Calls Tryz.prog 196 #[.pointer (some ⟨mi, 0, none⟩)] w fun e w' => e = .returned (.bool true) ∧ w = w' := by
 have c0 := h.n_cell
 have hn : 0 < n := h.low
 clear h
 go_enter Tryz.func196, Tryz.ntmps196
 go_wp2
 go_ret
 exact ⟨rfl, rfl⟩
/-- The map of a number. -/
def ofS (f : MpF) (M : SnM) (snap : Int) : Option MpF := if snap = 0 then some f else (aget M snap).map (·.2)
def ofP (mi : Nat) (M : SnM) (snap : Int) : Value := if snap = 0 then .pointer (some ⟨mi, 1, none⟩) else ((aget M snap).map veP).getD (.pointer none)
theorem of_any {w : World} {mi bs n : Nat} {f : MpF} {M : SnM} (h : MapsIs w mi bs n f M) (snap : Int) (hs : -9223372036854775808 ≤ snap ∧ snap ≤ 9223372036854775807) : Calls Tryz.prog 197 #[.pointer (some ⟨mi, 0, none⟩), .int .i64 snap] w fun e w' => e = .returned (ofP mi M snap) ∧ w = w' := by
 have c0 := h.s_cell
 have H := yH h.map
 clear h
 by_cases h0 : snap = 0
 ·subst h0
  go_enter Tryz.func197, Tryz.ntmps197
  go_wp2
  go_ret
  exact ⟨rfl, rfl⟩
 ·have e0 : (snap == 0) = false := beq_eq_false_iff_ne.2 h0
  have eP : ofP mi M snap = ((aget M snap).map veP).getD (.pointer none) := by unfold ofP; rw [if_neg h0]
  have EP := yH eP
  clear eP
  generalize ofP mi M snap = R at *
  go_enter Tryz.func197, Tryz.ntmps197
  go_wp2_with ((with_reducible show wpList _ _ _ (_ :: _) _ _); refine wpl_mlook rfl 279 (.tmp 13) (.tmp 14) rfl keyed_int Tryz.underlying279 H.out rfl snap rfl (Tryz.zeroValue280) (klI_inj snap) (keyOf_kvI hs) ?_)
  go_ret
  rw [EP.out]
  exact ⟨rfl, rfl⟩
end Go.Proofs.YtffalfacakdhkaaGreatDoor
namespace Go.Proofs.YtffalfacakdhkaaGreatDoor
open Go.RowKit Go.Maps
set_option linter.unusedVariables false
set_option linter.unusedSimpArgs false

section
variable {P : Program} {w : World} {ops : Array Oper} {rest : List Oper} {o : Oper} {a : Act} {Q : Exit → Act → World → Prop}
theorem wpl_mk (hg : o.guard = none) (t : TypeId) (parts : Array (Nat × Operand)) (ho : o.op = .build t parts) (vals : List (Nat × Value)) (hl : parts.toList.map (fun x => (x.1, a.eval x.2)) = vals) (cs : Array Value) (hf : P.built t vals = some cs)
  (h : wpList P ops Q rest (a.put o.dst (.agg cs)) w) : wpList P ops Q (o :: rest) a w := by
 have hf' : P.built t (parts.map fun (i, x) => (i, a.eval x)).toList = some cs := by
  rw [Array.toList_map]
  rw [← hl] at hf
  exact hf
 refine wpList_build hg t parts ho (by rw [hf']; rfl) ?_
 rw [hf']
 exact h
end
theorem built_zSl : Tryz.prog.built 181 [] = some (slC zSl).toArray := by kernel_rfl
theorem infoSl : (Tryz.prog.info? 181).map (·.size) = some 34 := by kernel_rfl
theorem infoOne : (Tryz.prog.info? 282).map (·.size) = some 17408 := by kernel_rfl
theorem ofP_none {f : MpF} {M : SnM} {snap : Int} (mi : Nat) (h : ofS f M snap = none) : ofP mi M snap = .pointer none := by
 unfold ofS at h
 unfold ofP
 split at h
 ·cases h
 ·rename_i h0
  rw [if_neg h0]
  cases hq : aget M snap with
  | none => rfl
  | some p => rw [hq] at h; cases h
theorem ofP_some {w : World} {mi bs n : Nat} {f : MpF} {M : SnM} (h : MapsIs w mi bs n f M) {snap : Int} {g : MpF} (hg : ofS f M snap = some g) :
  ∃ b off, ofP mi M snap = .pointer (some ⟨b, off, none⟩) ∧ b < w.heap.size ∧ ∀ u, u < 512 → w.rangeAt b (off + u * 34) (slC (g u)) := by
 unfold ofS at hg
 unfold ofP
 split at hg
 ·rename_i h0
  rw [if_pos h0]
  injection hg with hg
  subst hg
  exact ⟨mi, 1, rfl, h.blk.lt, fun u hu => h.blk.part _ _ (by rw [slC_len]; exact mapsC_part n f bs u hu)⟩
 ·rename_i h0
  rw [if_neg h0]
  cases hq : aget M snap with
  | none => rw [hq] at hg; cases hg
  | some p =>
   rw [hq] at hg
   injection hg with hg
   subst hg
   have hb := h.each _ (aget_mem hq)
   exact ⟨p.1, 0, rfl, hb.lt, fun u hu => by rw [Nat.zero_add]; exact hb.part _ _ (by rw [slC_len]; exact oneC_part p.2 u hu)⟩
def getS (n : Nat) (f : MpF) (M : SnM) (snap unit : Int) : Option Sl :=
 if 0 ≤ unit ∧ unit < n then match ofS f M snap with
  | some g => if (g unit.toNat).mask = 0 then none else some (g unit.toNat)
  | none => none
 else none
def GetPost (r : Option Sl) (w : World) (e : Ending) (w' : World) : Prop := e = .returned (.tuple #[vSl (r.getD zSl), .bool r.isSome]) ∧ Below w.heap.size w w'
set_option maxHeartbeats 1000000 in
theorem get_any {w : World} {mi bs n : Nat} {f : MpF} {M : SnM} (h : MapsIs w mi bs n f M) (snap unit : Int) (hs : -9223372036854775808 ≤ snap ∧ snap ≤ 9223372036854775807) :
  Calls Tryz.prog 123 #[.pointer (some ⟨mi, 0, none⟩), .int .i64 snap, .int .i64 unit] w (GetPost (getS n f M snap unit) w) := by
 have H := yH h
 have hn := h.high
 clear h
 generalize hr : getS n f M snap unit = r
 have HR0 := yH hr
 clear hr
 go_enter Tryz.func123, Tryz.ntmps123
 go_upto_region 1 with ((with_reducible show wpList _ _ _ (_ :: _) _ _); refine wpl_alloc rfl 181 rfl Tryz.zeroValue181 34 rfl ?_; intro w1 cs hk hc hg hz; have K := yH hk; have C := yH hc; have G := yH hg; have Z := yH hz; clear hk hc hg hz)
 have H1 := yH (H.out.grown G.out)
 have c0 := H1.out.n_cell
 have L1 := yH (show Below w.heap.size w w1 from (Below.refl _ _).grown G.out (Nat.le_refl _) (by simp))
 by_cases hu : unit < 0
 ·have HR := yH (show r = none by rw [← HR0.out]; unfold getS; rw [if_neg (by omega)])
  go_wp2_with (first
   | (go_at_call 196; refine (known_any H1.out).mono ?_; rintro e w2 ⟨rfl, rfl⟩)
   | ((with_reducible show wpList _ _ _ (_ :: _) _ _); refine wpl_mk rfl 181 #[] rfl [] rfl _ built_zSl ?_)
   | ((with_reducible show wpList _ _ _ (_ :: _) _ _); refine wpl_over rfl 181 (.tmp 6) (.tmp 24) rfl w.heap.size (slC zSl) rfl rfl _ cs K.out (by rw [slC_len]; exact infoSl) (by rw [slC_len, C.out]) (slC_one _) ?_; intro w2 hk hg hz; have K2 := yH hk; have L2 := yH (bl_g L1.out hg (Nat.le_refl _)); clear hk hg hz))
  refine bodyPost_ret (results_blk_tmp rfl _ w.heap.size rfl _ _ K2.out _ Tryz.underlying181 rfl 34 infoSl (by simp [slC_len])) rfl ?_
  rw [HR.out]
  exact ⟨rfl, L2.out⟩
 ·by_cases hu2 : (n : Int) ≤ unit
  ·have HR := yH (show r = none by rw [← HR0.out]; unfold getS; rw [if_neg (by omega)])
   go_wp2_with (first
    | (go_at_call 196; refine (known_any H1.out).mono ?_; rintro e w2 ⟨rfl, rfl⟩)
    | ((with_reducible show wpList _ _ _ (_ :: _) _ _); refine wpl_mk rfl 181 #[] rfl [] rfl _ built_zSl ?_)
    | ((with_reducible show wpList _ _ _ (_ :: _) _ _); refine wpl_over rfl 181 (.tmp 6) (.tmp 24) rfl w.heap.size (slC zSl) rfl rfl _ cs K.out (by rw [slC_len]; exact infoSl) (by rw [slC_len, C.out]) (slC_one _) ?_; intro w2 hk hg hz; have K2 := yH hk; have L2 := yH (bl_g L1.out hg (Nat.le_refl _)); clear hk hg hz))
   refine bodyPost_ret (results_blk_tmp rfl _ w.heap.size rfl _ _ K2.out _ Tryz.underlying181 rfl 34 infoSl (by simp [slC_len])) rfl ?_
   rw [HR.out]
   exact ⟨rfl, L2.out⟩
  ·obtain ⟨u, rfl⟩ : ∃ u : Nat, unit = (u : Int) := ⟨unit.toNat, by omega⟩
   have huN : u < 512 := by omega
   have hltN : ¬ n ≤ u := by omega
   cases hq : ofS f M snap with
   | none =>
    have eP := ofP_none mi hq
    have HR := yH (show r = none by rw [← HR0.out]; unfold getS; rw [if_pos (by omega), hq])
    go_wp2_with (first
     | (go_at_call 196; refine (known_any H1.out).mono ?_; rintro e w2 ⟨rfl, rfl⟩)
     | (go_at_call 197; refine (of_any H1.out snap hs).mono ?_; rw [eP]; rintro e w2 ⟨rfl, rfl⟩)
     | ((with_reducible show wpList _ _ _ (_ :: _) _ _); refine wpl_mk rfl 181 #[] rfl [] rfl _ built_zSl ?_)
     | ((with_reducible show wpList _ _ _ (_ :: _) _ _); refine wpl_over rfl 181 (.tmp 6) (.tmp 39) rfl w.heap.size (slC zSl) rfl rfl _ cs K.out (by rw [slC_len]; exact infoSl) (by rw [slC_len, C.out]) (slC_one _) ?_; intro w2 hk hg hz; have K2 := yH hk; have L2 := yH (bl_g L1.out hg (Nat.le_refl _)); clear hk hg hz))
    refine bodyPost_ret (results_blk_tmp rfl _ w.heap.size rfl _ _ K2.out _ Tryz.underlying181 rfl 34 infoSl (by simp [slC_len])) rfl ?_
    rw [HR.out]
    exact ⟨rfl, L2.out⟩
   | some g =>
    obtain ⟨b, off, eP, hb, hrg⟩ := ofP_some H1.out hq
    have HRg := yH (hrg u huN)
    clear hrg
    have cm := HRg.out 33 _ (slC_mask (g u))
    by_cases hm : (g u).mask = 0
    ·have HR := yH (show r = none by rw [← HR0.out]; unfold getS; rw [if_pos (by omega), hq]; simp only [Int.toNat_natCast, hm, if_true])
     rw [hm] at cm
     go_wp2_with (first
      | (go_at_call 196; refine (known_any H1.out).mono ?_; rintro e w2 ⟨rfl, rfl⟩)
      | (go_at_call 197; refine (of_any H1.out snap hs).mono ?_; rw [eP]; rintro e w2 ⟨rfl, rfl⟩)
      | ((with_reducible show wpList _ _ _ (_ :: _) _ _); refine wpl_mk rfl 181 #[] rfl [] rfl _ built_zSl ?_)
      | ((with_reducible show wpList _ _ _ (_ :: _) _ _); refine wpl_over rfl 181 (.tmp 6) (.tmp 39) rfl w.heap.size (slC zSl) rfl rfl _ cs K.out (by rw [slC_len]; exact infoSl) (by rw [slC_len, C.out]) (slC_one _) ?_; intro w2 hk hg hz; have K2 := yH hk; have L2 := yH (bl_g L1.out hg (Nat.le_refl _)); clear hk hg hz))
     refine bodyPost_ret (results_blk_tmp rfl _ w.heap.size rfl _ _ K2.out _ Tryz.underlying181 rfl 34 infoSl (by simp [slC_len])) rfl ?_
     rw [HR.out]
     exact ⟨rfl, L2.out⟩
    ·have HR := yH (show r = some (g u) by rw [← HR0.out]; unfold getS; rw [if_pos (by omega), hq]; simp only [Int.toNat_natCast, hm, if_false])
     have em : ((g u).mask == 0) = false := beq_eq_false_iff_ne.2 hm
     generalize (g u).mask = mk at cm em
     go_wp2_with (first
      | (go_at_call 196; refine (known_any H1.out).mono ?_; rintro e w2 ⟨rfl, rfl⟩)
      | (go_at_call 197; refine (of_any H1.out snap hs).mono ?_; rw [eP]; rintro e w2 ⟨rfl, rfl⟩)
      | ((with_reducible show wpList _ _ _ (_ :: _) _ _); refine wpList_load_mid rfl 181 (.tmp 43) rfl b (off + u * 34) rfl (slC (g u)) _ HRg.out Tryz.underlying181 rfl (by rw [slC_len]; exact infoSl) ?_)
      | ((with_reducible show wpList _ _ _ (_ :: _) _ _); refine wpl_over rfl 181 (.tmp 6) (.tmp 44) rfl w.heap.size (slC (g u)) rfl rfl _ cs K.out (by rw [slC_len]; exact infoSl) (by rw [slC_len, C.out]) (slC_one _) ?_; intro w2 hk hg hz; have K2 := yH hk; have L2 := yH (bl_g L1.out hg (Nat.le_refl _)); clear hk hg hz))
     refine bodyPost_ret (results_blk_tmp rfl _ w.heap.size rfl _ _ K2.out _ Tryz.underlying181 rfl 34 infoSl (by simp [slC_len])) rfl ?_
     rw [HR.out]
     exact ⟨rfl, L2.out⟩
end Go.Proofs.YtffalfacakdhkaaGreatDoor
namespace Go.Proofs.YtffalfacakdhkaaGreatDoor
open Go.RowKit Go.Maps
set_option linter.unusedVariables false
set_option linter.unusedSimpArgs false

def zF : MpF := fun _ => zSl
def cellAt (j : Nat) : Value := if j = 0 then .int .i64 0 else if j = 17409 then .map none else if (j - 1) % 34 < 32 then .int .u8 0 else .int .i64 0
def eqv : Value → Value → Bool
 | .int .i64 0, .int .i64 0 => true
 | .int .u8 0, .int .u8 0 => true
 | .map none, .map none => true
 | _, _ => false
theorem eqv_eq {x y : Value} (h : eqv x y = true) : x = y := by
 unfold eqv at h
 split at h
 ·rfl
 ·rfl
 ·rfl
 ·cases h
def chkAt (n : Nat) : List Value → Nat → Bool
 | [], j => Nat.beq j n
 | v :: r, j => match eqv v (cellAt j) with | true => chkAt n r (Nat.succ j) | false => false
theorem chkAt_get {n : Nat} : ∀ (l : List Value) (j : Nat), chkAt n l j = true → j + l.length = n ∧ ∀ i, i < l.length → l[i]? = some (cellAt (j + i))
 | [], j, h => ⟨by simpa using Nat.eq_of_beq_eq_true h, fun i hi => by simp at hi⟩
 | v :: r, j, h => by
  unfold chkAt at h
  split at h
  ·rename_i hv
   obtain ⟨h1, h2⟩ := chkAt_get r (Nat.succ j) h
   refine ⟨by rw [List.length_cons]; omega, fun i hi => ?_⟩
   rcases i with _ | i
   ·rw [eqv_eq hv]; rfl
   ·rw [List.getElem?_cons_succ, h2 i (by simpa using hi)]
    congr 2
    omega
  ·cases h
theorem chk_maps : chkAt 17410 Tryz.zeroCells284.toList 0 = true := by kernel_rfl
theorem zSl_cell (r : Nat) (hr : r < 34) : (slC zSl)[r]? = some (if r < 32 then .int .u8 0 else .int .i64 0) := by
 unfold slC
 rcases Nat.lt_or_ge r 32 with h | h
 ·rw [List.getElem?_append_left (by rw [keyL_len]; exact h), if_pos h]
  show (List.map (Value.int .u8) (List.replicate 32 0))[r]? = _
  rw [List.map_replicate, List.getElem?_replicate, if_pos h]
 ·rw [List.getElem?_append_right (by rw [keyL_len]; exact h), keyL_len, if_neg (by omega)]
  rcases (by omega : r = 32 ∨ r = 33) with rfl | rfl <;> rfl
theorem zero_maps : Tryz.zeroCells284 = (.int .i64 0 :: (oneC zF ++ [.map none]) : List Value).toArray := by
 obtain ⟨h1, h2⟩ := chkAt_get _ _ chk_maps
 apply Array.ext'
 rw [toArr]
 apply List.ext_getElem?
 intro j
 rcases Nat.lt_or_ge j 17410 with hj | hj
 ·rw [h2 j (by omega), Nat.zero_add]
  unfold cellAt
  rcases j with _ | j
  ·rfl
  ·rw [if_neg (by omega), List.getElem?_cons_succ]
   rcases Nat.lt_or_ge j 17408 with hj2 | hj2
   ·rw [if_neg (by omega), List.getElem?_append_left (by rw [oneC_len]; exact hj2)]
    have hc := oneC_cell zF (j / 34) (j % 34) (by omega) (by omega)
    rw [List.getElem?_toArray, show j / 34 * 34 + j % 34 = j by omega] at hc
    rw [hc]
    show _ = (slC zSl)[j % 34]?
    rw [zSl_cell _ (by omega), Nat.add_sub_cancel]
   ·have : j = 17408 := by omega
    subst this
    rw [if_pos rfl, List.getElem?_append_right (by rw [oneC_len]; exact Nat.le_refl _), oneC_len]
    rfl
 ·rw [List.getElem?_eq_none (by omega), List.getElem?_eq_none (by simp [oneC_len]; omega)]
theorem built_maps (n : Int) (m : Value) (hm : m.cells.toList = [m]) : Tryz.prog.built 284 [(0, .int .i64 n), (2, m)] = some (.int .i64 n :: (oneC zF ++ [m]) : List Value).toArray := by
 have e : Tryz.prog.built 284 [(0, .int .i64 n), (2, m)] = Instr.fill ([(0, 1), (1, 17408), (17409, 1)].toArray[·]?) Tryz.zeroCells284 [(0, .int .i64 n), (2, m)] := by kernel_rfl
 rw [e, zero_maps, fill_cons 0 [.int .i64 n] rfl rfl (by simp), fill_cons 17409 [m] hm rfl (by rw [size_putAt]; simp [oneC_len])]
 unfold Instr.fill
 refine congrArg some ?_
 rw [putAt_list _ _ _ (by rw [size_putAt]; simp [oneC_len])]
 refine congrArg List.toArray ?_
 rw [putAt_list _ _ _ (by simp), toArr, toArr]
 simp only [List.take_zero, List.nil_append, List.length_singleton, Nat.zero_add, List.cons_append]
 rw [List.drop_succ_cons, List.drop_zero, List.take_succ_cons, List.drop_succ_cons, List.take_left' (oneC_len _), List.drop_eq_nil_of_le (by simp [oneC_len])]
 simp
def NewSome (n : Nat) (w : World) (e : Ending) (w' : World) : Prop := ∃ mi bs, e = .returned (.pointer (some ⟨mi, 0, none⟩)) ∧ MapsIs w' mi bs n zF [] ∧ w.heap.size ≤ mi ∧ w.heap.size ≤ bs ∧ Below w.heap.size w w'
theorem maps_new (k : Nat) (hk : 1 ≤ k ∧ k ≤ 512) (w : World) : Calls Tryz.prog 145 #[.int .i64 (k : Int)] w (NewSome k w) := by
 have g1 : ¬ (k : Int) < 1 := by omega
 have g2 : ¬ 512 < (k : Int) := by omega
 have HK := yH hk
 clear hk
 have hmm := @run_makeMap Tryz.prog
 go_enter Tryz.func145, Tryz.ntmps145
 go_wp2_with (first
  | ((with_reducible show wpList _ _ _ (_ :: _) _ _); refine wpl_mk rfl 284 #[(0, .tmp 9), (2, .tmp 10)] rfl [(0, .int .i64 (k : Int)), (2, .map (some w.heap.size))] rfl _ (built_maps _ _ rfl) ?_)
  | ((with_reducible show wpList _ _ _ (_ :: _) _ _); refine wpl_box rfl 284 (.tmp 11) rfl _ rfl ?_; intro w1 hk hg hz; have K := yH hk; have G := yH hg; clear hk hg hz))
 go_ret
 refine ⟨w.heap.size + 1, w.heap.size, rfl, ⟨?_, ?_, fun p hp => by simp at hp, HK.out.1, HK.out.2⟩, Nat.le_succ _, Nat.le_refl _, ?_⟩
 ·have := K.out
  rw [show (w.alloc (Obj.map #[] 0)).heap.size = w.heap.size + 1 by simp] at this
  exact this
 ·exact (MapIs.made w _ _ _ _ _).kept G.out (by simp)
 ·exact bl_n ((Below.refl _ _).alloc (Nat.le_refl _) _) G.out
end Go.Proofs.YtffalfacakdhkaaGreatDoor
namespace Go.Proofs.YtffalfacakdhkaaGreatDoor
open Go.RowKit Go.Maps
set_option linter.unusedVariables false
set_option linter.unusedSimpArgs false

theorem slC_info (s : Sl) : (Tryz.prog.info? 181).map (·.size) = some (slC s).length := by rw [slC_len]; exact infoSl
theorem keyL_info (K : Key) : (Tryz.prog.info? 179).map (·.size) = some (keyL K).length := by rw [keyL_len]; kernel_rfl
def setE (n : Nat) (unit : Int) (s : Sl) : Int := if 0 ≤ unit ∧ unit < n ∧ 0 ≤ s.off ∧ s.off < 16 ∧ 1 ≤ s.mask ∧ s.mask ≤ 255 then 0 else 2
def setF (n : Nat) (f : MpF) (unit : Int) (s : Sl) : MpF := if setE n unit s = 0 then upd f unit.toNat s else f
end Go.Proofs.YtffalfacakdhkaaGreatDoor
namespace Go.Proofs.YtffalfacakdhkaaGreatDoor
open Go.RowKit Go.Maps
set_option linter.unusedVariables false
set_option linter.unusedSimpArgs false

theorem oneC_info (f : MpF) : (Tryz.prog.info? 282).map (·.size) = some (oneC f).length := by rw [oneC_len]; exact infoOne
theorem oneC_one (f : MpF) : ∀ v ∈ oneC f, v.oneCell' = true := by
 intro v hv
 obtain ⟨u, _, h⟩ := List.mem_flatMap.1 hv
 exact slC_one _ v h
def lenIs (n : Nat) : List Value → Nat → Bool
 | [], j => Nat.beq j n
 | _ :: r, j => match Nat.ble j n with | true => lenIs n r (Nat.succ j) | false => false
theorem lenIs_eq {n : Nat} : ∀ (l : List Value) (j : Nat), lenIs n l j = true → j + l.length = n
 | [], j, h => by simpa using Nat.eq_of_beq_eq_true h
 | v :: r, j, h => by
  unfold lenIs at h
  split at h
  ·have := lenIs_eq r _ h
   rw [List.length_cons]
   omega
  ·cases h
theorem zero_one_len : (Value.agg Tryz.zeroCells282).cells.size = 17408 := by
 have h : lenIs 17408 Tryz.zeroCells282.toList 0 = true := by kernel_rfl
 have := lenIs_eq _ _ h
 rw [Nat.zero_add, Array.length_toList] at this
 exact this
theorem mapsC_rng {w : World} {mi n bs : Nat} {f : MpF} (h : Blk w mi 284 (mapsC n f bs).toArray) : w.rangeAt mi 1 (oneC f) := h.part _ _ (by rw [oneC_len]; exact mapsC_one n f bs)
def snapE (M : SnM) (id : Int) : Int := if id < 1 ∨ 1073741824 < id then 2 else if (aget M id).isSome then 7 else if 8 ≤ M.length then 14 else 0
def SnapPost (mi bs n : Nat) (f : MpF) (M : SnM) (id : Int) (w : World) (e : Ending) (w' : World) : Prop := e = .returned (.int .i64 (snapE M id)) ∧ Tch [bs] w w' ∧
 ((snapE M id ≠ 0 ∧ MapsIs w' mi bs n f M) ∨ (snapE M id = 0 ∧ ∃ g, MapsIs w' mi bs n f (aput M id (g, f)) ∧ w.heap.size ≤ g))
set_option maxRecDepth 100000 in
set_option maxHeartbeats 1000000 in
theorem snap_any {w : World} {mi bs n : Nat} {f : MpF} {M : SnM} (h : MapsIs w mi bs n f M) (id : Int) :
  Calls Tryz.prog 224 #[.pointer (some ⟨mi, 0, none⟩), .int .i64 id] w (SnapPost mi bs n f M id w) := by
 have H := yH h
 have c0 := h.s_cell
 clear h
 by_cases h1 : id < 1
 ·have HE := yH (show snapE M id = 2 from if_pos (.inl h1))
  go_enter Tryz.func224, Tryz.ntmps224
  go_wp2_with (go_at_call 196; refine (known_any H.out).mono ?_; rintro e w2 ⟨rfl, rfl⟩)
  go_ret
  unfold SnapPost
  rw [HE.out]
  exact ⟨rfl, Tch.refl _ _, .inl ⟨by decide, H.out⟩⟩
 by_cases h2 : 1073741824 < id
 ·have HE := yH (show snapE M id = 2 from if_pos (.inr h2))
  go_enter Tryz.func224, Tryz.ntmps224
  go_wp2_with (go_at_call 196; refine (known_any H.out).mono ?_; rintro e w2 ⟨rfl, rfl⟩)
  go_ret
  unfold SnapPost
  rw [HE.out]
  exact ⟨rfl, Tch.refl _ _, .inl ⟨by decide, H.out⟩⟩
 have hid : -9223372036854775808 ≤ id ∧ id ≤ 9223372036854775807 := by omega
 have HD := yH hid
 clear hid
 cases hq : aget M id with
 | some p =>
  have HE := yH (show snapE M id = 7 by unfold snapE; rw [if_neg (by omega), hq]; rfl)
  have hval : ((aget M id).map veP).getD (.pointer none) = .pointer (some ⟨p.1, 0, none⟩) := by rw [hq]; rfl
  have HV := yH hval
  clear hq hval
  go_enter Tryz.func224, Tryz.ntmps224
  go_wp2_with (first
   | (go_at_call 196; refine (known_any H.out).mono ?_; rintro e w2 ⟨rfl, rfl⟩)
   | ((with_reducible show wpList _ _ _ (_ :: _) _ _); refine wpl_mlook rfl 279 (.tmp 21) (.tmp 22) rfl keyed_int Tryz.underlying279 H.out.map rfl id rfl (Tryz.zeroValue280) (klI_inj id) (keyOf_kvI HD.out) ?_; rw [HV.out]))
  go_ret
  unfold SnapPost
  rw [HE.out]
  exact ⟨rfl, Tch.refl _ _, .inl ⟨by decide, H.out⟩⟩
 | none =>
  have HN := yH hq
  have hval : ((aget M id).map veP).getD (.pointer none) = .pointer none := by rw [hq]; rfl
  have HV := yH hval
  clear hq hval
  by_cases h8 : 8 ≤ M.length
  ·have HE := yH (show snapE M id = 14 by unfold snapE; rw [if_neg (by omega), HN.out, if_neg (by simp), if_pos h8])
   have h8I : (8 : Int) ≤ (M.length : Int) := by omega
   go_enter Tryz.func224, Tryz.ntmps224
   go_wp2_with (first
    | (go_at_call 196; refine (known_any H.out).mono ?_; rintro e w2 ⟨rfl, rfl⟩)
    | ((with_reducible show wpList _ _ _ (_ :: _) _ _); refine wpl_mlook rfl 279 (.tmp 21) (.tmp 22) rfl keyed_int Tryz.underlying279 H.out.map rfl id rfl (Tryz.zeroValue280) (klI_inj id) (keyOf_kvI HD.out) ?_; rw [HV.out])
    | ((with_reducible show wpList _ _ _ (_ :: _) _ _); refine wpl_mlen rfl 279 (.tmp 29) rfl Tryz.underlying279 H.out.map rfl ?_))
   go_ret
   unfold SnapPost
   rw [HE.out]
   exact ⟨rfl, Tch.refl _ _, .inl ⟨by decide, H.out⟩⟩
  ·have HE := yH (show snapE M id = 0 by unfold snapE; rw [if_neg (by omega), HN.out, if_neg (by simp), if_neg h8])
   have h8I : ¬ (8 : Int) ≤ (M.length : Int) := by omega
   have HM := yH (show M.length < maxLen by unfold maxLen; omega)
   go_enter Tryz.func224, Tryz.ntmps224
   go_upto_region 9 with (first
    | (go_at_call 196; refine (known_any H.out).mono ?_; rintro e w2 ⟨rfl, rfl⟩)
    | ((with_reducible show wpList _ _ _ (_ :: _) _ _); refine wpl_mlook rfl 279 (.tmp 21) (.tmp 22) rfl keyed_int Tryz.underlying279 H.out.map rfl id rfl (Tryz.zeroValue280) (klI_inj id) (keyOf_kvI HD.out) ?_; rw [HV.out])
    | ((with_reducible show wpList _ _ _ (_ :: _) _ _); refine wpl_mlen rfl 279 (.tmp 29) rfl Tryz.underlying279 H.out.map rfl ?_))
   go_upto_region 10 with (first
    | ((with_reducible show wpList _ _ _ (_ :: _) _ _); refine wpList_load_mid rfl 282 (.tmp 34) rfl mi 1 rfl (oneC f) _ (mapsC_rng H.out.blk) Tryz.underlying282 rfl (oneC_info f) ?_)
    | ((with_reducible show wpList _ _ _ (_ :: _) _ _); refine wpl_alloc rfl 282 rfl Tryz.zeroValue282 17408 zero_one_len ?_; intro w1 cs hk hc hg hz; have K := yH hk; have C := yH hc; have G := yH hg; have Z := yH hz; clear hk hc hg hz)
    | ((with_reducible show wpList _ _ _ (_ :: _) _ _); refine wpl_over rfl 282 (.tmp 5) (.tmp 35) rfl w.heap.size (oneC f) rfl rfl _ cs K.out (oneC_info f) (by rw [oneC_len, C.out]) (oneC_one f) ?_; intro w2 hk hg hz; have K2 := yH hk; have L2 := yH (bl_g (bl_n (Below.refl _ _) G.out) hg (Nat.le_refl _)); clear hk hg hz))
   have H2 := yH (H.out.below L2.out)
   have c2 := H2.out.s_cell
   go_wp2_with ((with_reducible show wpList _ _ _ (_ :: _) _ _); refine wpl_mput rfl 279 (.tmp 39) (.tmp 40) (.tmp 5) rfl keyed_int Tryz.underlying279 H2.out.map HM.out rfl id rfl (w.heap.size, f) rfl (klI_inj id) (keyOf_kvI HD.out) ?_; intro w3 hm hg; have M3 := yH hm; have G3 := yH hg; clear hm hg)
   go_ret
   unfold SnapPost
   rw [HE.out]
   have hT : Tch [bs] w2 w3 := Tch.grown G3.out (fun k hk => by injection hk with hk; subst hk; exact .inl (by simp))
   refine ⟨rfl, (Tch.below L2.out).trans hT, .inr ⟨rfl, w.heap.size, ⟨H2.out.blk.grown G3.out ?_, M3.out, fun p hp => ?_, H2.out.low, H2.out.high⟩, Nat.le_refl _⟩⟩
   ·have := blk_ne_map H2.out.map H2.out.blk
    simp
    exact this
   ·have hb : Blk w2 p.2.1 282 (oneC p.2.2).toArray := by
     rcases List.mem_cons.1 hp with e | hp
     ·rw [e]; exact K2.out
     ·exact H2.out.each p (List.mem_filter.1 hp).1
    refine hb.grown G3.out ?_
    have := blk_ne_map H2.out.map hb
    simp
    exact this
def dropE (M : SnM) (id : Int) : Int := if (aget M id).isSome then 0 else 13
def DropPost (mi bs n : Nat) (f : MpF) (M : SnM) (id : Int) (w : World) (e : Ending) (w' : World) : Prop := e = .returned (.int .i64 (dropE M id)) ∧ Tch [bs] w w' ∧ MapsIs w' mi bs n f (adel M id)
theorem drop_any {w : World} {mi bs n : Nat} {f : MpF} {M : SnM} (h : MapsIs w mi bs n f M) (id : Int) (hid : -9223372036854775808 ≤ id ∧ id ≤ 9223372036854775807) :
  Calls Tryz.prog 317 #[.pointer (some ⟨mi, 0, none⟩), .int .i64 id] w (DropPost mi bs n f M id w) := by
 have H := yH h
 have c0 := h.s_cell
 clear h
 have HD := yH hid
 clear hid
 cases hq : aget M id with
 | some p =>
  have HE := yH (show dropE M id = 0 by unfold dropE; rw [hq]; rfl)
  have hval : ((aget M id).map veP).getD (.pointer none) = .pointer (some ⟨p.1, 0, none⟩) := by rw [hq]; rfl
  have HV := yH hval
  clear hq hval
  go_enter Tryz.func317, Tryz.ntmps317
  go_wp2_with (first
   | (go_at_call 196; refine (known_any H.out).mono ?_; rintro e w2 ⟨rfl, rfl⟩)
   | ((with_reducible show wpList _ _ _ (_ :: _) _ _); refine wpl_mlook rfl 279 (.tmp 13) (.tmp 14) rfl keyed_int Tryz.underlying279 H.out.map rfl id rfl (Tryz.zeroValue280) (klI_inj id) (keyOf_kvI HD.out) ?_; rw [HV.out])
   | ((with_reducible show wpList _ _ _ (_ :: _) _ _); refine wpl_mdel rfl 279 (.tmp 20) (.tmp 21) rfl keyed_int Tryz.underlying279 H.out.map rfl id rfl (klI_inj id) (keyOf_kvI HD.out) ?_; intro w3 hm hg; have M3 := yH hm; have G3 := yH hg; clear hm hg))
  go_ret
  unfold DropPost
  rw [HE.out]
  have hT : Tch [bs] w w3 := Tch.grown G3.out (fun k hk => by injection hk with hk; subst hk; exact .inl (by simp))
  refine ⟨rfl, hT, ⟨H.out.blk.grown G3.out ?_, M3.out, fun p hp => ?_, H.out.low, H.out.high⟩⟩
  ·have := blk_ne_map H.out.map H.out.blk
   simp
   exact this
  ·have hb := H.out.each p (List.mem_filter.1 hp).1
   refine hb.grown G3.out ?_
   have := blk_ne_map H.out.map hb
   simp
   exact this
 | none =>
  have HE := yH (show dropE M id = 13 by unfold dropE; rw [hq]; rfl)
  have hval : ((aget M id).map veP).getD (.pointer none) = .pointer none := by rw [hq]; rfl
  have HV := yH hval
  have HN := yH hq
  clear hq hval
  go_enter Tryz.func317, Tryz.ntmps317
  go_wp2_with (first
   | (go_at_call 196; refine (known_any H.out).mono ?_; rintro e w2 ⟨rfl, rfl⟩)
   | ((with_reducible show wpList _ _ _ (_ :: _) _ _); refine wpl_mlook rfl 279 (.tmp 13) (.tmp 14) rfl keyed_int Tryz.underlying279 H.out.map rfl id rfl (Tryz.zeroValue280) (klI_inj id) (keyOf_kvI HD.out) ?_; rw [HV.out]))
  go_ret
  unfold DropPost
  rw [HE.out, adel_none HN.out]
  exact ⟨rfl, Tch.refl _ _, H.out⟩
def backF (f : MpF) (M : SnM) (id : Int) : MpF := match aget M id with | some p => p.2 | none => f
end Go.Proofs.YtffalfacakdhkaaGreatDoor
namespace Go.Proofs.YtffalfacakdhkaaGreatDoor
open Go.RowKit Go.Maps
set_option linter.unusedVariables false
set_option linter.unusedSimpArgs false

/-- Bits taken out of a mask. -/
def anM (m x : Int) : Int := IntKind.i64.wrap ((BitVec.ofInt 64 m &&& ~~~ BitVec.ofInt 64 x).toNat)
def clr1 (s : Sl) (frm to_ : Nat) : Sl := if anM s.mask ((2 : Int) ^ to_ - (2 : Int) ^ frm) = 0 then zSl else ⟨s.key, s.off, anM s.mask ((2 : Int) ^ to_ - (2 : Int) ^ frm)⟩
def clrTo (at_ en : Nat) : Nat := min 8 (at_ % 8 + (en - at_))
/-- What Clear makes of the current map. -/
def clrGo : Nat → MpF → Nat → Nat → MpF
 | 0, f, _, _ => f
 | k + 1, f, at_, en => if at_ < en then clrGo k (upd f (at_ / 8) (clr1 (f (at_ / 8)) (at_ % 8) (clrTo at_ en))) (at_ + (clrTo at_ en - at_ % 8)) en else f
def clrE (n : Nat) (at_ m : Int) : Int := if at_ < 0 ∨ m < 0 ∨ (n : Int) * 8 < at_ ∨ (n : Int) * 8 - at_ < m then 2 else 0
def clrF (n : Nat) (f : MpF) (at_ m : Int) : MpF := if clrE n at_ m = 0 then clrGo m.toNat f at_.toNat (at_.toNat + m.toNat) else f
end Go.Proofs.YtffalfacakdhkaaGreatDoor
