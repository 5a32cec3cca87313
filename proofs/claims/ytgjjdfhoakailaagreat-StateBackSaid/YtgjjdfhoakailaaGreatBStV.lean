/-
  what this claim needs of: StV (written by cut.py).
-/
import Derived.Test.YtgjjdfhoakailaaGreatBMem
import Derived.Test.YtgjjdfhoakailaaGreatBStMapG
import Derived.DeepKeys
import Derived.ChangeKeys
namespace Go.Proofs.YtgjjdfhoakailaaGreat
open Go.RowKit Go.Maps
set_option linter.unusedVariables false
set_option linter.unusedSimpArgs false

/-- A key: 32 bytes. -/
abbrev Key := {K : List Int // K.length = 32 ∧ ∀ z ∈ K, 0 ≤ z ∧ z < 256}
def keyL (K : Key) : List Value := K.1.map (Value.int .u8)
theorem keyL_len (K : Key) : (keyL K).length = 32 := by simp [keyL, K.2.1]
theorem keyL_inj {K L : Key} (h : keyL K = keyL L) : K = L := by
  apply Subtype.ext
  have : ∀ (xs ys : List Int), xs.map (Value.int .u8) = ys.map (Value.int .u8) → xs = ys := by
    intro xs
    induction xs with
    | nil => intro ys h; cases ys with
      | nil => rfl
      | cons _ _ => simp at h
    | cons x xs ih => intro ys h; cases ys with
      | nil => simp at h
      | cons y ys =>
        simp only [List.map_cons, List.cons.injEq, Value.int.injEq, true_and] at h
        rw [h.1, ih ys h.2]
  exact this _ _ h
def zKey : Key := ⟨List.replicate 32 0, by simp, fun z hz => by have := List.eq_of_mem_replicate hz; omega⟩
structure Pl where
  pos : Int
  sec : Int
  uni : Int
  ref : Int
structure Sl where
  key : Key
  off : Int
  mask : Int
structure It where
  kind : Int
  key : Key
  pl : Pl
  snap : Int
  unit : Int
  sl : Sl
structure Fr where
  key : Key
  pl : Pl
structure Pu where
  unit : Int
  sl : Sl
structure Cn where
  key : Key
  ref : Int
instance : DecidableEq Pl := fun a b => decidable_of_iff ((a.pos, a.sec, a.uni, a.ref) = (b.pos, b.sec, b.uni, b.ref)) (by cases a; cases b; simp)
instance : DecidableEq Sl := fun a b => decidable_of_iff ((a.key, a.off, a.mask) = (b.key, b.off, b.mask)) (by cases a; cases b; simp)
instance : DecidableEq It := fun a b => decidable_of_iff ((a.kind, a.key, a.pl, a.snap, a.unit, a.sl) = (b.kind, b.key, b.pl, b.snap, b.unit, b.sl)) (by cases a; cases b; simp)
def zPl : Pl := ⟨0, 0, 0, 0⟩
def zSl : Sl := ⟨zKey, 0, 0⟩
def plC (p : Pl) : List Value := [.int .i64 p.pos, .int .i64 p.sec, .int .i64 p.uni, .int .i64 p.ref]
def slC (s : Sl) : List Value := keyL s.key ++ [.int .i64 s.off, .int .i64 s.mask]
def itC (i : It) : List Value := .int .u8 i.kind :: (keyL i.key ++ (plC i.pl ++ (.int .i64 i.snap :: .int .i64 i.unit :: slC i.sl)))
def frC (f : Fr) : List Value := keyL f.key ++ plC f.pl
def puC (p : Pu) : List Value := .int .i64 p.unit :: slC p.sl
def cnC (c : Cn) : List Value := keyL c.key ++ [.int .i64 c.ref]
/-- The values themselves. -/
def vKey (K : Key) : Value := .agg (keyL K).toArray
def vPl (p : Pl) : Value := .agg (plC p).toArray
def vSl (s : Sl) : Value := .agg (slC s).toArray
def vIt (i : It) : Value := .agg (itC i).toArray
theorem plC_len (p : Pl) : (plC p).length = 4 := rfl
theorem slC_len (s : Sl) : (slC s).length = 34 := by simp [slC, keyL_len]
theorem itC_len (i : It) : (itC i).length = 73 := by simp [itC, keyL_len, plC_len, slC_len]
theorem frC_len (f : Fr) : (frC f).length = 36 := by simp [frC, keyL_len, plC_len]
theorem puC_len (p : Pu) : (puC p).length = 35 := by simp [puC, slC_len]
theorem cnC_len (c : Cn) : (cnC c).length = 33 := by simp [cnC, keyL_len]
theorem keyL_one (K : Key) : ∀ v ∈ keyL K, v.oneCell' = true := by
  intro v hv
  obtain ⟨z, _, rfl⟩ := List.mem_map.1 hv
  rfl
theorem plC_one (p : Pl) : ∀ v ∈ plC p, v.oneCell' = true := by
  intro v hv
  simp [plC] at hv
  rcases hv with rfl | rfl | rfl | rfl <;> rfl
theorem slC_one (s : Sl) : ∀ v ∈ slC s, v.oneCell' = true := by
  intro v hv
  rcases List.mem_append.1 hv with h | h
  · exact keyL_one _ v h
  · simp at h
    rcases h with rfl | rfl <;> rfl
theorem itC_one (i : It) : ∀ v ∈ itC i, v.oneCell' = true := by
  intro v hv
  unfold itC at hv
  simp only [List.mem_cons, List.mem_append] at hv
  rcases hv with rfl | h | h | rfl | rfl | h
  · rfl
  · exact keyL_one _ v h
  · exact plC_one _ v h
  · rfl
  · rfl
  · exact slC_one _ v h
theorem frC_one (f : Fr) : ∀ v ∈ frC f, v.oneCell' = true := by
  intro v hv
  rcases List.mem_append.1 hv with h | h
  · exact keyL_one _ v h
  · exact plC_one _ v h
theorem puC_one (p : Pu) : ∀ v ∈ puC p, v.oneCell' = true := by
  intro v hv
  rcases List.mem_cons.1 hv with rfl | h
  · rfl
  · exact slC_one _ v h
theorem cnC_one (c : Cn) : ∀ v ∈ cnC c, v.oneCell' = true := by
  intro v hv
  rcases List.mem_append.1 hv with h | h
  · exact keyL_one _ v h
  · simp at h; subst h; rfl
theorem one_arr {l : List Value} (h : ∀ v ∈ l, v.oneCell' = true) : ∀ v ∈ l.toArray.toList, v.oneCell' = true := by simpa using h

def litsK (K : Key) : List Lit := K.1.map (Lit.int .u8)
def klK (K : Key) : Lit := .string (keyBytes (litsK K))
theorem u8_wf' {z : Int} (h : 0 ≤ z ∧ z < 256) : (Lit.int .u8 z).wf = true := by
  have e1 : IntKind.u8.min = 0 := by decide
  have e2 : IntKind.u8.max = 255 := by decide
  simp [Lit.wf, e1, e2]
  omega
theorem i64_wf' {z : Int} (h : -9223372036854775808 ≤ z ∧ z ≤ 9223372036854775807) : (Lit.int .i64 z).wf = true := by
  have e1 : IntKind.i64.min = -9223372036854775808 := by decide
  have e2 : IntKind.i64.max = 9223372036854775807 := by decide
  simp [Lit.wf, e1, e2]
  omega
theorem mapM_some'' {α β : Type} (f : α → Option β) (g : α → β) : ∀ l : List α, (∀ x ∈ l, f x = some (g x)) → l.mapM f = some (l.map g)
  | [], _ => rfl
  | x :: l, h => by
    rw [List.mapM_cons, h x (by simp), mapM_some'' f g l (fun y hy => h y (by simp [hy]))]
    rfl
theorem key_cellsOf : Tryz.prog.cellsOf 50 = 32 := by kernel_rfl
theorem u8_cellsOf : Tryz.prog.cellsOf 5 = 1 := by kernel_rfl
theorem u8_litsOf (d : Nat) (x : Int) (h : 0 ≤ x ∧ x < 256) : Tryz.prog.keyLits (d + 1) 5 [Value.int .u8 x] = some [Lit.int .u8 x] := by
  unfold Program.keyLits
  rw [Tryz.underlying5]
  simp [u8_wf' h]
theorem i64_litsOf (d : Nat) (x : Int) (h : -9223372036854775808 ≤ x ∧ x ≤ 9223372036854775807) : Tryz.prog.keyLits (d + 1) 3 [Value.int .i64 x] = some [Lit.int .i64 x] := by
  unfold Program.keyLits
  rw [Tryz.underlying3]
  simp [i64_wf' h]
theorem key_litsOf (d : Nat) (K : Key) : Tryz.prog.keyLits (d + 2) 50 (keyL K) = some (litsK K) := by
  unfold Program.keyLits
  rw [Tryz.underlying50]
  simp only [key_cellsOf, keyL_len, if_true, u8_cellsOf]
  rw [mapM_some'' _ (fun i => [Lit.int .u8 (K.1.getD i 0)]) (List.range 32) (fun i hi => ?_)]
  · have : ((List.range 32).map fun i => [Lit.int .u8 (K.1.getD i 0)]).flatten = litsK K := by
      rw [← List.flatMap_def, ← List.map_eq_flatMap]
      apply List.ext_getElem (by simp [litsK, K.2.1])
      intro i h1 h2
      simp only [List.getElem_map, List.getElem_range, litsK]
      rw [List.getD_eq_getElem?_getD, List.getElem?_eq_getElem (by simpa [litsK] using h2)]
      rfl
    rw [Option.map_some, this]
  · have hi := List.mem_range.1 hi
    have e : ((keyL K).drop (i * 1)).take 1 = [Value.int .u8 (K.1.getD i 0)] := by
      rw [Nat.mul_one, List.getD_eq_getElem?_getD, List.getElem?_eq_getElem (by rw [K.2.1]; exact hi), List.drop_eq_getElem_cons (by rw [keyL_len]; exact hi), List.take_succ_cons, List.take_zero]
      simp [keyL]
    rw [e]
    refine u8_litsOf d _ ?_
    rw [List.getD_eq_getElem?_getD, List.getElem?_eq_getElem (by rw [K.2.1]; exact hi)]
    exact K.2.2 _ (List.getElem_mem _)
theorem types_two : ∃ n, Tryz.prog.types.size + 1 = n + 4 := ⟨Tryz.prog.types.size - 3, by
  have : Tryz.prog.types.size = 3 + (Tryz.prog.types.size - 3) := by kernel_rfl
  omega⟩
theorem key_type : Tryz.prog.keyType 50 = true := by kernel_rfl
theorem keyOf_key (K : Key) : keyOf Tryz.prog 50 (vKey K) = some (klK K) := by
  obtain ⟨n, hn⟩ := types_two
  have hf : (vKey K).formed Tryz.prog 50 = true := by simp [vKey, Value.formed, Tryz.underlying50, key_cellsOf, keyL_len]
  unfold keyOf
  rw [Tryz.underlying50]
  simp only [key_type, hf, Bool.and_self, if_true, hn]
  have : (vKey K).cells.toList = keyL K := by simp [vKey, Value.cells]
  rw [this, key_litsOf (n + 2) K]
  rfl
theorem keyed_key : Keyed Tryz.prog 50 := Keyed.of_law (deep_law_laid (m := 2) (by kernel_rfl) (by omega) (of_decide_eq_true (by kernel_rfl)) (by kernel_rfl) (by rw [Tryz.underlying50]))
theorem klK_inj {K L : Key} (h : klK K = klK L) : K = L := by
  have h1 := keyOf_key K
  rw [h] at h1
  have := keyed_key.inj h1 (keyOf_key L)
  have h2 : (keyL K).toArray = (keyL L).toArray := Value.agg.inj this
  exact keyL_inj (by simpa using congrArg Array.toList h2)
theorem keyed_int : Keyed Tryz.prog 3 := int_keyed Tryz.underlying3
theorem keyOf_i64 {n : Int} (h : -9223372036854775808 ≤ n ∧ n ≤ 9223372036854775807) : keyOf Tryz.prog 3 (.int .i64 n) = some (.int .i64 n) := keyOf_int_mk Tryz.underlying3 (i64_wf' h)
theorem keyed_u8 : Keyed Tryz.prog 31 := int_keyed Tryz.underlying31
theorem keyOf_u8 {n : Int} (h : 0 ≤ n ∧ n < 256) : keyOf Tryz.prog 31 (.int .u8 n) = some (.int .u8 n) := keyOf_int_mk Tryz.underlying31 (u8_wf' h)
theorem litsK_inj {K L : Key} (h : litsK K = litsK L) : K = L := klK_inj (by unfold klK; rw [h])
end Go.Proofs.YtgjjdfhoakailaaGreat
