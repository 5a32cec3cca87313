/-
  what this claim needs of: StMapE (written by cut.py).
-/
import Derived.Test.YtgjjdfhoakailaaGreatBStW
namespace Go.Proofs.YtgjjdfhoakailaaGreat
open Go.RowKit Go.Maps Go.ChangeMaps
set_option linter.unusedVariables false

section
variable {α β : Type} [DecidableEq α] {P : Program} {k : TypeId} {kv : α → Value} {kl : α → Lit} {ve : β → Value} {w : World} {b : Nat} {M : List (α × β)}
theorem MapIs.entry2 {t e : TypeId} (h : MapIs P k kv kl ve w b M) (K : Keyed P k) (KL : Go.WideMaps.KeyLaw P k) (ht : P.underlying t = some (.map k e)) {z : Value} (hz : ∀ u : World, (zeroValue e).run P u = .ok z u) (hn : M.length < maxLen) {x : α}
    (hinj : ∀ p ∈ M, kl p.1 = kl x → p.1 = x) (hx : keyOf P k (kv x) = some (kl x)) (zd : β) (hzd : ve zd = z) :
    ∃ v0 st w1, (Instr.mapEntry t (.map (some b)) (kv x)).run P w = .ok (.tuple #[v0, goInt st]) w1 ∧ w.grownBy w1 (some b) ∧ MapIs P k kv kl ve w1 b (aput M x ((aget M x).getD zd)) ∧
      ∀ (w2 : World) (v : β), w2.heap[b]? = w1.heap[b]? → ∃ w3, (Instr.entryStore t (.map (some b)) (goInt st) (ve v)).run P w2 = .ok () w3 ∧ MapIs P k kv kl ve w3 b (aput M x v) ∧ w2.grownBy w3 (some b) := by
  obtain ⟨v0, st, w1, hrun, hg, hst⟩ := h.entry K KL ht hz hn hinj hx
  refine ⟨v0, st, w1, hrun, hg, ?_, hst⟩
  have hlook := h.look K ht (hz w) hinj hx
  have hv : ve ((aget M x).getD zd) = ((aget M x).map ve).getD z := by
    cases aget M x with
    | none => exact hzd
    | some y => rfl
  obtain ⟨w', hup, hm, _⟩ := h.update K ht hn hinj hx ((aget M x).getD zd)
  rw [hv] at hup
  have key : (Instr.mapUpdate t (.map (some b)) (kv x) (((aget M x).map ve).getD z)).run P w = .ok () w1 := by
    generalize ((aget M x).map ve).getD z = u at hlook
    obtain ⟨es, ⟨es', clock, hb, F, _⟩, _⟩ := h
    rcases K.find w hx es'.toList F.keys with ⟨h1, h2⟩ | ⟨j, e0, h1, h2, h3⟩
    · have e1 : z = u := by
        have : (Instr.lookup t (.map (some b)) (kv x) false).run P w = .ok z w := by simp [Instr.lookup, run_underlying ht, MapKept.run_getObj_map hb, K.check w _ hx, h1, hz, Result.andThen]
        rw [this] at hlook
        injection hlook
      subst e1
      have e2 : (Instr.mapEntry t (.map (some b)) (kv x)).run P w = .ok (.tuple #[z, goInt clock]) (setBlock w b (.map (es'.push ⟨kv x, z, clock⟩) (clock + 1))) := by
        simp [Instr.mapEntry, run_underlying ht, MapKept.run_getObj_map hb, K.check w false hx, h1, hz, MapKept.run_setObj_map _ hb, Result.andThen, setBlock]
      rw [hrun] at e2
      injection e2 with _ e2
      rw [e2]
      simp [Instr.mapUpdate, run_underlying ht, MapKept.run_getObj_map hb, K.check w false hx, h1, MapKept.run_setObj_map _ hb, Result.andThen, setBlock]
    · have hj : es'[j]? = some e0 := by simpa using h2
      have e1 : e0.val = u := by
        have : (Instr.lookup t (.map (some b)) (kv x) false).run P w = .ok e0.val w := by simp [Instr.lookup, run_underlying ht, MapKept.run_getObj_map hb, K.check w _ hx, h1, Result.andThen]
        rw [this] at hlook
        injection hlook
      have hself : ∀ (l : List MapEntry) (i : Nat) (a : MapEntry), l[i]? = some a → l.set i a = l := fun l i a h => by
        apply List.ext_getElem?
        intro q
        rw [List.getElem?_set]
        split
        · rename_i hq
          subst hq
          have := (List.getElem?_eq_some_iff.1 h).1
          rw [if_pos this, h]
        · rfl
      have hsame : es'.modify j (fun e => { e with key := kv x }) = es' := by
        apply Array.ext'
        rw [Array.toList_modify, modify_eq_set _ _ _ _ h2]
        have : ({ e0 with key := kv x } : MapEntry) = e0 := by rw [← h3]
        rw [this]
        exact hself _ _ _ h2
      have hsame2 : es'.modify j (fun e => { e with key := kv x, val := u }) = es' := by
        apply Array.ext'
        rw [Array.toList_modify, modify_eq_set _ _ _ _ h2]
        have : ({ e0 with key := kv x, val := u } : MapEntry) = e0 := by rw [← h3, ← e1]
        rw [this]
        exact hself _ _ _ h2
      have e2 : (Instr.mapEntry t (.map (some b)) (kv x)).run P w = .ok (.tuple #[e0.val, goInt e0.born]) (setBlock w b (.map es' clock)) := by
        simp [Instr.mapEntry, run_underlying ht, MapKept.run_getObj_map hb, K.check w false hx, h1, hj, h3, K.stays w hx, hsame, MapKept.run_setObj_map _ hb, Result.andThen, setBlock]
      rw [hrun] at e2
      injection e2 with _ e2
      rw [e2]
      simp [Instr.mapUpdate, run_underlying ht, MapKept.run_getObj_map hb, K.check w false hx, h1, hj, h3, K.stays w hx, hsame2, MapKept.run_setObj_map _ hb, Result.andThen, setBlock]
  rw [hup] at key
  injection key with _ key
  rwa [key] at hm
theorem wpl_mentry2 {ops : Array Oper} {rest : List Oper} {o : Oper} {a : Act} {Q : Exit → Act → World → Prop} (hg : o.guard = none) (t : TypeId) (m x : Operand) (hop : o.op = .mapEntry t m x) {e : TypeId} (K : Keyed P k) (KL : Go.WideMaps.KeyLaw P k) (ht : P.underlying t = some (.map k e)) (h : MapIs P k kv kl ve w b M) (hn : M.length < maxLen) (hm : a.eval m = .map (some b)) (X : α) (hx : a.eval x = kv X)
    {z : Value} (hz : ∀ u : World, (zeroValue e).run P u = .ok z u) (hinj : ∀ p ∈ M, kl p.1 = kl X → p.1 = X) (hkey : keyOf P k (kv X) = some (kl X)) (zd : β) (hzd : ve zd = z)
    (hK : ∀ v0 (st : Int) w1, w.grownBy w1 (some b) → MapIs P k kv kl ve w1 b (aput M X ((aget M X).getD zd)) → (∀ (w2 : World) (v : β), w2.heap[b]? = w1.heap[b]? → ∃ w3, (Instr.entryStore t (.map (some b)) (.int .i64 st) (ve v)).run P w2 = .ok () w3 ∧ MapIs P k kv kl ve w3 b (aput M X v) ∧ w2.grownBy w3 (some b)) →
      wpList P ops Q rest (a.put o.dst (.tuple #[v0, .int .i64 st])) w1) : wpList P ops Q (o :: rest) a w := by
  refine wpList_plain hg fun K' hK' => ?_
  obtain ⟨v0, st, w1, hrun, h1, h3, h2⟩ := h.entry2 K KL ht hz hn hinj hkey zd hzd
  unfold Oper.wp
  simp [execOp, hop, hm, hx, hrun, Result.andThen]
  exact hK' _ _ (hK v0 st w1 h1 h3 h2)
end
theorem keyLaw_key : Go.WideMaps.KeyLaw Tryz.prog 50 := deep_law_laid (m := 2) (by kernel_rfl) (by omega) (of_decide_eq_true (by kernel_rfl)) (by kernel_rfl) (by rw [Tryz.underlying50])
end Go.Proofs.YtgjjdfhoakailaaGreat
