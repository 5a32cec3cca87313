/-
  what this claim needs of: StS4 (written by cut.py).
-/
import Derived.Test.YtgjjdfhoakailaaGreatBStS3
import Derived.Test.YtgjjdfhoakailaaGreatBStFk
import Derived.Test.YtgjjdfhoakailaaGreatBStX
namespace Go.Proofs.YtgjjdfhoakailaaGreat
open Go.RowKit Go.Maps Go.Sort Go.Shelf
set_option linter.unusedVariables false
set_option linter.unusedSimpArgs false

abbrev WnM := List (Key × Bool)
def frM (l : List Fr) : SuM := l.foldl (fun S p => aput S p.key p.pl.uni) []
def wnM (l : List Pu) : WnM := l.foldl (fun S p => aput S p.sl.key true) []
theorem aput_len {α β : Type} [DecidableEq α] (M : List (α × β)) (k : α) (v : β) : (aput M k v).length ≤ M.length + 1 := by
  unfold aput adel
  have := List.length_filter_le (fun p => decide (p.1 ≠ k)) M
  simp at this ⊢
  first | exact this | omega
theorem snoc_ind {α : Type} {motive : List α → Prop} (nil : motive []) (append_singleton : ∀ l x, motive l → motive (l ++ [x])) (l : List α) : motive l := by
  rw [← List.reverse_reverse l]
  induction l.reverse with
  | nil => exact nil
  | cons x l ih => rw [List.reverse_cons]; exact append_singleton _ _ ih
theorem frM_snoc (l : List Fr) (p : Fr) : frM (l ++ [p]) = aput (frM l) p.key p.pl.uni := by simp [frM, List.foldl_append]
theorem wnM_snoc (l : List Pu) (p : Pu) : wnM (l ++ [p]) = aput (wnM l) p.sl.key true := by simp [wnM, List.foldl_append]
theorem frM_len (l : List Fr) : (frM l).length ≤ l.length := by
  induction l using snoc_ind with
  | nil => simp [frM]
  | append_singleton l p ih =>
    have := aput_len (frM l) p.key p.pl.uni
    rw [frM_snoc, List.length_append, List.length_singleton]
    omega
theorem wnM_len (l : List Pu) : (wnM l).length ≤ l.length := by
  induction l using snoc_ind with
  | nil => simp [wnM]
  | append_singleton l p ih =>
    have := aput_len (wnM l) p.sl.key true
    rw [wnM_snoc, List.length_append, List.length_singleton]
    omega
theorem wnM_get (l : List Pu) (K : Key) : ((aget (wnM l) K).map Value.bool).getD (.bool false) = .bool (decide (K ∈ l.map (·.sl.key))) := by
  induction l using snoc_ind with
  | nil => simp [wnM, aget]
  | append_singleton l p ih =>
    rw [wnM_snoc, aget_put, List.map_append]
    by_cases h : p.sl.key = K
    · simp [h]
    · rw [if_neg h, ih]
      have h' : ¬ K = p.sl.key := fun e => h e.symm
      simp [h']
def thereB (E : ExM) (l : List Fr) : Bool := l.any (fun p => (aget E p.key).isSome)
def uniOf (E : ExM) (S : SuM) (K : Key) : Int := match aget S K with | some u => u | none => ((aget E K).getD zPl).uni
def putOk (n : Nat) (E : ExM) (S : SuM) (p : Pu) : Bool := decide (p.unit < n) && decide (p.sl.off < uniOf E S p.sl.key)
def wantedB (l : List Pu) (p : Fr) : Bool := decide (p.key ∈ l.map (·.sl.key))
def wrE (n : Nat) (E : ExM) (o : OpV) : Int :=
  if thereB E o.news = true then 7 else if o.puts.all (putOk n E (frM o.news)) = false then 2 else if o.news.all (wantedB o.puts) = false then 2 else 0
def addAll (E : ExM) (l : List Fr) : ExM := l.foldl (fun E p => addX E p.key p.pl) E
def setAll (n : Nat) (f : MpF) (l : List Pu) : MpF := l.foldl (fun f p => setF n f p.unit p.sl) f
theorem addAll_snoc (E : ExM) (l : List Fr) (p : Fr) : addAll E (l ++ [p]) = addX (addAll E l) p.key p.pl := by simp [addAll, List.foldl_append]
theorem setAll_snoc (n : Nat) (f : MpF) (l : List Pu) (p : Pu) : setAll n f (l ++ [p]) = setF n (setAll n f l) p.unit p.sl := by simp [setAll, List.foldl_append]
theorem addAll_len (E : ExM) (l : List Fr) : (addAll E l).length ≤ E.length + l.length := by
  induction l using snoc_ind with
  | nil => simp [addAll]
  | append_singleton l p ih =>
    have h1 := aput_len (addAll E l) p.key p.pl
    rw [addAll_snoc, List.length_append, List.length_singleton]
    unfold addX
    split <;> omega
/-- What a write ends with. -/
def WrPost (si xi bx mi bs n : Nat) (E : ExM) (f : MpF) (M : SnM) (o : OpV) (w : World) (e : Ending) (w' : World) : Prop :=
  e = .returned (.int .i64 (wrE n E o)) ∧ StIs w' si xi bx mi bs n (if wrE n E o = 0 then addAll E o.news else E) (if wrE n E o = 0 then setAll n f o.puts else f) M ∧ Tch [bx, mi] w w'
theorem wrE_there {n : Nat} {E : ExM} {o : OpV} (h : thereB E o.news = true) : wrE n E o = 7 := if_pos h
theorem wrE_put {n : Nat} {E : ExM} {o : OpV} (h : thereB E o.news = false) (h2 : o.puts.all (putOk n E (frM o.news)) = false) : wrE n E o = 2 := by unfold wrE; rw [h, h2]; rfl
theorem wrE_want {n : Nat} {E : ExM} {o : OpV} (h : thereB E o.news = false) (h2 : o.puts.all (putOk n E (frM o.news)) = true) (h3 : o.news.all (wantedB o.puts) = false) : wrE n E o = 2 := by unfold wrE; rw [h, h2, h3]; rfl
theorem wrE_ok {n : Nat} {E : ExM} {o : OpV} (h : thereB E o.news = false) (h2 : o.puts.all (putOk n E (frM o.news)) = true) (h3 : o.news.all (wantedB o.puts) = true) : wrE n E o = 0 := by unfold wrE; rw [h, h2, h3]; rfl
theorem all_take_succ {α : Type} {l : List α} {p : α → Bool} {i : Nat} (hi : i < l.length) (h : (l.take i).all p = true) (hx : p (l[i]'hi) = true) : (l.take (i + 1)).all p = true := by
  rw [List.take_succ_eq_append_getElem hi, List.all_append, h]
  simp [hx]
theorem all_bad {α : Type} {l : List α} {p : α → Bool} {i : Nat} (hi : i < l.length) (hx : p (l[i]'hi) = false) : l.all p = false := by
  rw [← Bool.not_eq_true, List.all_eq_true]
  intro h
  rw [h _ (List.getElem_mem hi)] at hx
  cases hx
theorem there_take {E : ExM} {l : List Fr} {i : Nat} (hi : i < l.length) (h : thereB E (l.take i) = false) (hx : (aget E (l[i]'hi).key).isSome = false) : thereB E (l.take (i + 1)) = false := by
  unfold thereB at *
  rw [List.take_succ_eq_append_getElem hi, List.any_append, h]
  simpa using hx
theorem there_bad {E : ExM} {l : List Fr} {i : Nat} (hi : i < l.length) (hx : (aget E (l[i]'hi).key).isSome = true) : thereB E l = true := List.any_eq_true.2 ⟨_, List.getElem_mem hi, hx⟩
def Off (m : Nat) (T : List Nat) (A : Option Addr) : Prop := 0 < m → ∀ p, A = some p → p.block ∉ T
theorem Src.tch {w w' : World} {sz n m c : Nat} {A : Option Addr} {xs : List Value} {T : List Nat} (h : Src w sz (.slice A n c) m xs) (hb : Tch T w w') (hA : Off m T A) : Src w' sz (.slice A n c) m xs := by
  obtain ⟨A', c', e, hl, hc⟩ := h
  refine ⟨A', c', e, hl, fun hm => ?_⟩
  obtain ⟨b, off, e2, hlt, hcell⟩ := hc hm
  refine ⟨b, off, e2, Nat.lt_of_lt_of_le hlt hb.size, fun j y hj => ?_⟩
  have h1 := hcell j y hj
  injection e with e3
  subst e3
  have h2 := hb.block b hlt (hA hm _ e2)
  unfold World.cell? at h1 ⊢
  simp only [h2]
  exact h1
theorem OpAt.tch {w w' : World} {o : OpV} {A B : Option Addr} {c d : Nat} {T : List Nat} (h : OpAt w o A c B d) (hb : Tch T w w') (hA : Off o.news.length T A) (hB : Off o.puts.length T B) : OpAt w' o A c B d := ⟨h.news.tch hb hA, h.puts.tch hb hB⟩
structure WrC (w : World) (si xi bx mi bs n : Nat) (E : ExM) (f : MpF) (M : SnM) (o : OpV) (A : Option Addr) (c : Nat) (B : Option Addr) (d : Nat) (ob b5 b6 : Nat) (S5 : SuM) (S6 : WnM) (w' : World) : Prop where
  st : StIs w' si xi bx mi bs n E f M
  op : Blk w' ob 35 (opC o A c B d).toArray
  m5 : MapIs Tryz.prog 50 vKey klK (Value.int .i64) w' b5 S5
  m6 : MapIs Tryz.prog 50 vKey klK Value.bool w' b6 S6
  tch : Tch [bx, mi] w w'
  low : si < w.heap.size ∧ xi < w.heap.size ∧ bx < w.heap.size ∧ mi < w.heap.size ∧ bs < w.heap.size ∧ ∀ p ∈ M, p.2.1 < w.heap.size
  lo : w.heap.size ≤ ob ∧ w.heap.size ≤ b5 ∧ w.heap.size ≤ b6 ∧ ob ≠ b5 ∧ ob ≠ b6 ∧ b5 ≠ b6
section
variable {w w' w'' : World} {si xi bx mi bs n : Nat} {E E' : ExM} {f f' : MpF} {M : SnM} {o : OpV} {A : Option Addr} {c : Nat} {B : Option Addr} {d ob b5 b6 : Nat} {S5 S5' : SuM} {S6 S6' : WnM}
theorem WrC.below (h : WrC w si xi bx mi bs n E f M o A c B d ob b5 b6 S5 S6 w') (hb : Below w'.heap.size w' w'') : WrC w si xi bx mi bs n E f M o A c B d ob b5 b6 S5 S6 w'' :=
  ⟨h.st.below hb, h.op.below hb h.op.lt, h.m5.below hb h.m5.lt, h.m6.below hb h.m6.lt, h.tch.trans (Tch.below hb), h.low, h.lo⟩
theorem WrC.at (h : WrC w si xi bx mi bs n E f M o A c B d ob b5 b6 S5 S6 w') (h0 : OpAt w o A c B d) (hA : Off o.news.length [bx, mi] A) (hB : Off o.puts.length [bx, mi] B) : OpAt w' o A c B d := h0.tch h.tch hA hB
theorem WrC.put5 (h : WrC w si xi bx mi bs n E f M o A c B d ob b5 b6 S5 S6 w') (hm : MapIs Tryz.prog 50 vKey klK (Value.int .i64) w'' b5 S5') (hg : w'.grownBy w'' (some b5)) : WrC w si xi bx mi bs n E f M o A c B d ob b5 b6 S5' S6 w'' := by
  have hT : Tch [b5] w' w'' := tch_ownO hg
  have h1 := h.low
  have h2 := h.lo
  have g : ∀ k, k < w.heap.size → k ∉ [b5] := fun k hk => by simp; omega
  refine ⟨h.st.tch hT (g _ h1.1) (g _ h1.2.1) (g _ h1.2.2.1) (g _ h1.2.2.2.1) (g _ h1.2.2.2.2.1) (fun p hp => g _ (h1.2.2.2.2.2 p hp)), h.op.tch hT (by simp; omega), hm, h.m6.tch hT (by simp; omega), h.tch.fresh hT (fun k hk => .inr (by simp at hk; omega)), h1, h2⟩
theorem WrC.put6 (h : WrC w si xi bx mi bs n E f M o A c B d ob b5 b6 S5 S6 w') (hm : MapIs Tryz.prog 50 vKey klK Value.bool w'' b6 S6') (hg : w'.grownBy w'' (some b6)) : WrC w si xi bx mi bs n E f M o A c B d ob b5 b6 S5 S6' w'' := by
  have hT : Tch [b6] w' w'' := tch_ownO hg
  have h1 := h.low
  have h2 := h.lo
  have g : ∀ k, k < w.heap.size → k ∉ [b6] := fun k hk => by simp; omega
  refine ⟨h.st.tch hT (g _ h1.1) (g _ h1.2.1) (g _ h1.2.2.1) (g _ h1.2.2.2.1) (g _ h1.2.2.2.2.1) (fun p hp => g _ (h1.2.2.2.2.2 p hp)), h.op.tch hT (by simp; omega), h.m5.tch hT (by simp; omega), hm, h.tch.fresh hT (fun k hk => .inr (by simp at hk; omega)), h1, h2⟩
theorem WrC.newIdx (h : WrC w si xi bx mi bs n E f M o A c B d ob b5 b6 S5 S6 w') (hx : IdxIs w'' xi bx E') (hT : Tch [bx] w' w'') : WrC w si xi bx mi bs n E' f M o A c B d ob b5 b6 S5 S6 w'' := by
  have h1 := h.low
  have h2 := h.lo
  exact ⟨h.st.newIdx hx hT (fun k hk => by simpa using hk), h.op.tch hT (by simp; omega), h.m5.tch hT (by simp; omega), h.m6.tch hT (by simp; omega), h.tch.trans (hT.mono (fun k hk => by simp at hk; subst hk; simp)), h1, h2⟩
theorem WrC.newMap (h : WrC w si xi bx mi bs n E f M o A c B d ob b5 b6 S5 S6 w') (hx : MapsIs w'' mi bs n f' M) (hT : Tch [mi] w' w'') : WrC w si xi bx mi bs n E f' M o A c B d ob b5 b6 S5 S6 w'' := by
  have h1 := h.low
  have h2 := h.lo
  exact ⟨h.st.newMaps hx hT (fun k hk => .inl (by simpa using hk)), h.op.tch hT (by simp; omega), h.m5.tch hT (by simp; omega), h.m6.tch hT (by simp; omega), h.tch.trans (hT.mono (fun k hk => by simp at hk; subst hk; simp)), h1, h2⟩
end
/-- Get, with its answer taken apart. -/
def GetQPost (q : Pl) (bb : Bool) (w : World) (e : Ending) (w' : World) : Prop := e = .returned (.tuple #[.agg (plC q).toArray, .bool bb]) ∧ Below w.heap.size w w'
theorem x_get' {w : World} {xi bx : Nat} {E : ExM} (h : IdxIs w xi bx E) (K : Key) {q : Pl} {bb : Bool} (hq : q = (aget E K).getD zPl) (hb : bb = (aget E K).isSome) : Calls Tryz.prog 84 #[.pointer (some ⟨xi, 0, none⟩), .agg (keyL K).toArray] w (GetQPost q bb w) := by
  subst hq hb
  exact x_get h K
/-- The place that Get tells, put into a variable. -/
def PlR (q : Pl) (w : World) (v : Value) (w' : World) : Prop := ∃ g, v = .pointer (some ⟨g, 0, none⟩) ∧ w.heap.size ≤ g ∧ Blk w' g 52 (plC q).toArray ∧ Below w.heap.size w w'
end Go.Proofs.YtgjjdfhoakailaaGreat
