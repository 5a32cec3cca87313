/-
  InflateBack, the plain part: raw pieces expanded; blocks in a row.
-/
import Derived.Test.YtlhaehefhhcgaaaDoorDPlains
namespace Go.Proofs.YtlhaehefhhcgaaaDoor
open Go.RowKit
set_option linter.unusedVariables false

structure Rp where
  b : Int
  n : Int
  d : Int
def Pc.raw (p : Pc) : Rp := ⟨p.b, p.n, p.d⟩
def Rp.mt (out : List Int) (q : Rp) : Bool := decide (q.b = 0 ∧ 3 ≤ q.n ∧ q.n ≤ 258 ∧ 1 ≤ q.d ∧ q.d ≤ 32768 ∧ q.d ≤ out.length)
def exp1 (out : List Int) (q : Rp) : Option (List Int) :=
  if q.n = 0 ∧ q.d = 0 then some (out ++ [q.b]) else if q.mt out = true then some (copyR out q.d.toNat q.n.toNat) else none
def expR : List Int → List Rp → Option (List Int)
  | out, [] => some out
  | out, q :: l => match exp1 out q with
    | none => none
    | some o => if 65536 < o.length then none else expR o l

theorem exp1_is {out o : List Int} {q : Rp} (h : exp1 out q = some o) (hb : 0 ≤ q.b ∧ q.b < 256) : ∃ p : Pc, q = p.raw ∧ p.Ok out ∧ say1 out p = o := by
  obtain ⟨b, n, d⟩ := q
  unfold exp1 at h
  simp only at h hb
  split at h
  · rename_i h0
    obtain ⟨rfl, rfl⟩ := h0
    injection h with h
    refine ⟨⟨b.toNat, 0, 0⟩, ?_, .inl ⟨rfl, rfl, by simp only; omega⟩, ?_⟩
    · simp only [Pc.raw, Rp.mk.injEq]; omega
    · unfold say1
      rw [if_pos rfl, ← h]
      simp only
      rw [show ((b.toNat : Nat) : Int) = b by omega]
  · split at h
    · rename_i h0 h1
      injection h with h
      simp only [Rp.mt, decide_eq_true_eq] at h1
      obtain ⟨rfl, h2, h3, h4, h5, h6⟩ := h1
      refine ⟨⟨0, n.toNat, d.toNat⟩, ?_, .inr ⟨rfl, by simp only; omega, by simp only; omega, by simp only; omega, by simp only; omega, by simp only; omega⟩, ?_⟩
      · simp only [Pc.raw, Rp.mk.injEq]; omega
      · unfold say1
        rw [if_neg (by simp only; omega), ← h]
    · cases h
theorem expR_is : ∀ (l : List Rp) (out t : List Int), (∀ q ∈ l, 0 ≤ q.b ∧ q.b < 256) → expR out l = some t → ∃ l' : List Pc, l = l'.map Pc.raw ∧ OkAll out l' ∧ sayAll out l' = t
  | [], out, t, _, h => ⟨[], rfl, trivial, by injection h⟩
  | q :: l, out, t, hb, h => by
    unfold expR at h
    cases h1 : exp1 out q with
    | none => rw [h1] at h; cases h
    | some o =>
      rw [h1] at h
      simp only at h
      split at h
      · cases h
      · obtain ⟨p, rfl, hp, hs⟩ := exp1_is h1 (hb _ (by simp))
        obtain ⟨l', rfl, ho, hs2⟩ := expR_is l o t (fun q hq => hb q (by simp [hq])) h
        refine ⟨p :: l', rfl, ⟨hp, by rw [hs]; exact ho⟩, ?_⟩
        show sayAll (say1 out p) l' = t
        rw [hs, hs2]
theorem expR_append : ∀ (a b : List Rp) (out : List Int), expR out (a ++ b) = (expR out a).bind fun o => expR o b
  | [], b, out => rfl
  | q :: a, b, out => by
    rw [List.cons_append, expR, expR]
    cases exp1 out q with
    | none => rfl
    | some o =>
      simp only
      split
      · rfl
      · exact expR_append a b o
theorem raw_inj : ∀ {a b : List Pc}, a.map Pc.raw = b.map Pc.raw → a = b
  | [], [], _ => rfl
  | [], _ :: _, h => by cases h
  | _ :: _, [], h => by cases h
  | p :: a, q :: b, h => by
    simp only [List.map_cons, List.cons.injEq] at h
    obtain ⟨h1, h2⟩ := h
    rw [raw_inj h2]
    obtain ⟨x, y, z⟩ := p
    obtain ⟨x', y', z'⟩ := q
    simp only [Pc.raw, Rp.mk.injEq] at h1
    obtain ⟨h3, h4, h5⟩ := h1
    congr 1
    simp only [Pc.mk.injEq]
    omega
theorem okAll_append : ∀ (a b : List Pc) (out : List Int), OkAll out (a ++ b) → OkAll out a ∧ OkAll (sayAll out a) b
  | [], b, out, h => ⟨trivial, h⟩
  | p :: a, b, out, h => by
    obtain ⟨h1, h2⟩ := h
    obtain ⟨h3, h4⟩ := okAll_append a b _ h2
    exact ⟨⟨h1, h3⟩, h4⟩
theorem sayAll_append (a b : List Pc) (out : List Int) : sayAll out (a ++ b) = sayAll (sayAll out a) b := List.foldl_append
/-- One more block: the pieces of it, on the text so far. -/
theorem exp_more {A B : List Rp} {s t : List Int} (hA : expR [] A = some s) (hAB : expR [] (A ++ B) = some t) (hb : ∀ q ∈ A ++ B, 0 ≤ q.b ∧ q.b < 256) :
    ∃ a l : List Pc, B = l.map Pc.raw ∧ OkAll s l ∧ sayAll s l = t ∧ OkAll [] (a ++ l) := by
  obtain ⟨m, hm, ho, hs⟩ := expR_is _ _ _ hb hAB
  rw [expR_append, hA] at hAB
  obtain ⟨a, ha, hoa, hsa⟩ := expR_is A [] s (fun q hq => hb q (by simp [hq])) hA
  obtain ⟨l, hl, hol, hsl⟩ := expR_is B s t (fun q hq => hb q (by simp [hq])) hAB
  have e : m = a ++ l := raw_inj (by rw [← hm, ha, hl, List.map_append])
  rw [e] at ho
  exact ⟨a, l, hl, hol, hsl, ho⟩
theorem copy_bytes01 {P : Int → Prop} (h0 : P 0) {out : List Int} {far : Nat} (h : ∀ z ∈ out, P z) : ∀ n, ∀ z ∈ copyR out far n, P z
  | 0 => h
  | n + 1 => fun z hz => by
    have ih := copy_bytes01 h0 (far := far) h n
    rcases List.mem_append.1 hz with hz | hz
    · exact ih z hz
    · rw [List.mem_singleton] at hz
      subst hz
      rcases Nat.lt_or_ge ((copyR out far n).length - far) (copyR out far n).length with hl | hl
      · rw [List.getD_eq_getElem?_getD, List.getElem?_eq_getElem hl]; exact ih _ (List.getElem_mem hl)
      · rw [List.getD_eq_getElem?_getD, List.getElem?_eq_none hl]; exact h0
theorem say_bytes : ∀ (l : List Pc) (out : List Int), OkAll out l → (∀ z ∈ out, 0 ≤ z ∧ z < 256) → ∀ z ∈ sayAll out l, 0 ≤ z ∧ z < 256
  | [], out, _, h => h
  | p :: l, out, ho, h => by
    refine say_bytes l (say1 out p) ho.2 ?_
    intro z hz
    unfold say1 at hz
    split at hz
    · rcases List.mem_append.1 hz with hz | hz
      · exact h z hz
      · rw [List.mem_singleton] at hz
        rcases ho.1 with h1 | h1 <;> omega
    · exact copy_bytes01 (P := fun z => 0 ≤ z ∧ z < 256) (by omega) h _ z hz
theorem copy_pre (out : List Int) (far : Nat) : ∀ n, ∃ r, copyR out far n = out ++ r
  | 0 => ⟨[], by simp [copyR]⟩
  | n + 1 => by
    obtain ⟨r, hr⟩ := copy_pre out far n
    refine ⟨r ++ [(copyR out far n).getD ((copyR out far n).length - far) 0], ?_⟩
    rw [copyR, ← List.append_assoc, ← hr]
theorem say_pre : ∀ (l : List Pc) (out : List Int), ∃ r, sayAll out l = out ++ r
  | [], out => ⟨[], by simp [sayAll]⟩
  | p :: l, out => by
    obtain ⟨r, hr⟩ := say_pre l (say1 out p)
    have : ∃ r, say1 out p = out ++ r := by
      unfold say1
      split
      · exact ⟨_, rfl⟩
      · exact copy_pre _ _ _
    obtain ⟨r2, h2⟩ := this
    refine ⟨r2 ++ r, ?_⟩
    show sayAll (say1 out p) l = _
    rw [hr, h2, List.append_assoc]

/-! ### Blocks -/
def Pre (bt text : List Int) (k : Nat) : Prop := ∀ (bt' : List Int) (most f : Nat), text.length ≤ most → At bt' 0 bt → blocksR bt' most (f + k) [] 0 = blocksR bt' most f text bt.length
def Fin (bt text : List Int) (k : Nat) : Prop := ∀ (bt' : List Int) (most f : Nat), text.length ≤ most → At bt' 0 bt → blocksR bt' most (f + k) [] 0 = .ok text bt.length
def Kd (kind : Nat) (s t : List Int) (p : Nat) (X : List Int) : Prop := ∀ (bt' : List Int) (most : Nat), t.length ≤ most → At bt' p X → kindR bt' most kind s p = .ok t (p + X.length)
theorem pre_nil : Pre [] [] 0 := fun _ _ _ _ _ => rfl
theorem head3 (last kind : Nat) (hl : last < 2) (hk : kind < 3) : bitsL last 1 ++ bitsL kind 2 = bitsL (last + 2 * kind) 3 := by
  rw [show (3 : Nat) = 1 + 2 from rfl, bitsL_add 1 2]
  congr 1
  · simp [bitsL]
  · rw [show (last + 2 * kind) / 2 ^ 1 = kind by omega]
theorem at_app {bt' bt X : List Int} (h : At bt' 0 (bt ++ X)) : At bt' bt.length X := by
  have := h.right
  rwa [Nat.zero_add] at this
theorem pre_step {bt s t X : List Int} {k kind : Nat} (h : Pre bt s k) (hst : s.length ≤ t.length) (hk : kind < 3) (hd : Kd kind s t (bt.length + 3) X) : Pre (bt ++ (bitsL 0 1 ++ bitsL kind 2) ++ X) t (k + 1) := by
  intro bt' most f hm hat
  rw [head3 0 kind (by omega) hk, List.append_assoc] at hat ⊢
  have a1 := at_app hat
  rw [show f + (k + 1) = (f + 1) + k by omega, h bt' most (f + 1) (by omega) hat.left]
  have a2 : At bt' (bt.length + 1 + 2) X := by have := a1.right; rwa [bitsL_len] at this
  have hkr := hd bt' most hm a2
  rw [blocks_more (X := X) (v := 0 + 2 * kind) (by omega) (by omega) a1 (out' := t) (q := bt.length + 3 + X.length) (by rw [show (0 + 2 * kind) / 2 = kind by omega]; exact hkr)]
  congr 1
  simp only [List.length_append, bitsL_len]
  omega
theorem fin_step {bt s t X : List Int} {k kind : Nat} (h : Pre bt s k) (hst : s.length ≤ t.length) (hk : kind < 3) (hd : Kd kind s t (bt.length + 3) X) : Fin (bt ++ (bitsL 1 1 ++ bitsL kind 2) ++ X) t (k + 1) := by
  intro bt' most f hm hat
  rw [head3 1 kind (by omega) hk, List.append_assoc] at hat ⊢
  have a1 := at_app hat
  rw [show f + (k + 1) = (f + 1) + k by omega, h bt' most (f + 1) (by omega) hat.left]
  have a2 : At bt' (bt.length + 1 + 2) X := by have := a1.right; rwa [bitsL_len] at this
  have hkr := hd bt' most hm a2
  rw [blocks_last (X := X) (v := 1 + 2 * kind) (by omega) (by omega) a1 (out' := t) (q := bt.length + 3 + X.length) (by rw [show (1 + 2 * kind) / 2 = kind by omega]; exact hkr)]
  simp only [List.length_append, bitsL_len]
  congr 1
  omega
theorem fin_reads {bt text : List Int} {k : Nat} (h : Fin bt text k) (h01 : Bit01 bt) (hk : k ≤ bt.length) : Reads (packB bt) text := by
  refine reads_of h01 (fun bt' most hm hat => ?_)
  have h1 := hat.len
  unfold inflateR
  rw [show bt'.length + 1 = (bt'.length + 1 - k) + k by omega]
  exact h bt' most _ hm hat
def stoX (p : Nat) (c : List Int) : List Int := List.replicate ((8 - p % 8) % 8) 0 ++ (bitsL c.length 16 ++ (bitsL (65535 - c.length) 16 ++ byB c))
theorem kd_sto {s c : List Int} {p : Nat} (hc : ∀ b ∈ c, 0 ≤ b ∧ b < 256) (hn : c.length ≤ 65535) : Kd 0 s (s ++ c) p (stoX p c) := by
  intro bt' most hm hat
  rw [List.length_append] at hm
  have a1 := hat.right
  rw [List.length_replicate] at a1
  have e : p + (8 - p % 8) % 8 = alignR p := by unfold alignR; omega
  rw [e] at a1
  unfold kindR
  rw [if_pos rfl, stored_say hc hn hm a1]
  congr 1
  unfold stoX
  simp only [List.length_append, List.length_replicate, bitsL_len, byB_len]
  omega
theorem kd_fix {s : List Int} {a l : List Pc} {p : Nat} (ho : OkAll s l) (ha : OkAll [] (a ++ l)) : Kd 1 s (sayAll s l) p (pcsB fixedL fixedD l) := by
  intro bt' most hm hat
  unfold kindR
  rw [if_neg (by omega), if_pos rfl]
  exact fix_say ho (fun q hq => fix_has ha q (by simp [hq])) hm hat
def shortL : List Int := List.replicate 16 4 ++ List.replicate 3 0
def eachP (zs : List Int) : List Pt := zs.map fun z => ⟨z.toNat, 0, 0⟩
def dynX (l : List Pc) : List Int := bitsL 29 5 ++ (bitsL 29 5 ++ (bitsL 15 4 ++ (shB shortL 19 ++ (((fitA l).flatMap fun z => litB shortL z.toNat) ++ (((fitD l).flatMap fun z => litB shortL z.toNat) ++ pcsB (fitA l) (fitD l) l)))))
theorem each_say : ∀ (zs acc : List Int), (∀ z ∈ zs, 0 ≤ z ∧ z < 16) → PtsOk acc (eachP zs) ∧ ptsSay acc (eachP zs) = acc ++ zs
  | [], acc, _ => ⟨trivial, by simp [eachP, ptsSay]⟩
  | z :: zs, acc, h => by
    have hz := h z (by simp)
    have e1 : ptSay acc ⟨z.toNat, 0, 0⟩ = acc ++ [z] := by
      unfold ptSay
      simp only
      rw [if_neg (by omega), if_neg (by omega), if_neg (by omega), show ((z.toNat : Nat) : Int) = z by omega]
    have ih := each_say zs (acc ++ [z]) (fun y hy => h y (by simp [hy]))
    refine ⟨⟨.inl ⟨by simp only; omega, rfl, rfl⟩, ?_⟩, ?_⟩
    · rw [e1]; exact ih.1
    · show ptsSay (ptSay acc ⟨z.toNat, 0, 0⟩) (eachP zs) = _
      rw [e1, ih.2, List.append_assoc]; rfl
theorem each_bits (cs zs : List Int) : ptsB cs (eachP zs) = zs.flatMap fun z => litB cs z.toNat := by
  unfold ptsB eachP
  rw [List.flatMap_map]
  refine flatMap_same fun z _ => ?_
  unfold ptB
  simp [bitsL]
theorem short_ok : countsOk shortL = true := by kernel_rfl
theorem short_len : shortL.length = 19 := by kernel_rfl
theorem short_8 : ∀ z ∈ shortL, 0 ≤ z ∧ z < 8 := fun z hz => by
  rcases List.mem_append.1 hz with h | h <;> have := List.eq_of_mem_replicate h <;> omega
theorem short_has {s : Nat} (h : s < 16) : HasC shortL s := by
  refine ⟨by rw [short_len]; omega, ?_⟩
  unfold shortL
  rw [List.getD_eq_getElem?_getD, List.getElem?_append_left (by simpa using h), List.getElem?_replicate, if_pos h]
  simp
theorem has_fit {a l : List Pc} (ho : OkAll [] (a ++ l)) (hl : l.length ≤ 65536) : HasC (fitA l) 256 ∧ ∀ q ∈ l, HasP (fitA l) (fitD l) q := by
  have fA := fitA_facts hl
  have fD := fitD_facts hl
  have hA := fA.2.2.2
  have hD := fD.2.2.2
  generalize fitA l = A at *
  generalize fitD l = D at *
  have hend : HasC A 256 := hA 256 (by omega) (by rw [freqL_get l (by omega), if_pos rfl]; omega)
  refine ⟨hend, fun q hq => ?_⟩
  have hb := ok_byte (a ++ l) [] ho q (by simp [hq])
  have hlt : symOf q < 286 := by
    unfold symOf
    have := lenK_le q.n
    split
    · have := hb.1 (by assumption); omega
    · omega
  have h1 : HasC A (symOf q) := by
    refine hA _ hlt ?_
    rw [freqL_get l hlt]
    have := filter_pos (p := fun x => symOf x == symOf q) hq (by simp)
    split <;> omega
  unfold symOf at h1
  unfold HasP
  split
  · rename_i hn; rwa [if_pos hn] at h1
  · rename_i hn
    rw [if_neg hn] at h1
    refine ⟨h1, ?_⟩
    have hlt : distK q.d < 30 := by have := distK_le q.d; omega
    refine hD _ hlt ?_
    rw [freqD_get l hlt]
    have := filter_pos (p := fun x : Pc => !(x.n == 0) && distK x.d == distK q.d) hq (by simp [hn])
    omega
theorem kd_dyn {s : List Int} {a l : List Pc} {p : Nat} (ho : OkAll s l) (ha : OkAll [] (a ++ l)) (hl : l.length ≤ 65536) : Kd 2 s (sayAll s l) p (dynX l) := by
  intro bt' most hm hat
  have fA := fitA_facts hl
  have fD := fitD_facts hl
  have hf := has_fit ha hl
  unfold dynX at *
  generalize fitA l = A at *
  generalize fitD l = D at *
  have e := each_bits shortL (A ++ D)
  rw [List.flatMap_append] at e
  have hb : ∀ z ∈ A ++ D, 0 ≤ z ∧ z < 16 := fun z hz => by
    rcases List.mem_append.1 hz with h | h
    · have := fA.2.2.1 z h; omega
    · have := fD.2.2.1 z h; omega
  obtain ⟨p1, p2⟩ := each_say (A ++ D) [] hb
  have e2 : ∀ Y : List Int, (A.flatMap fun z => litB shortL z.toNat) ++ ((D.flatMap fun z => litB shortL z.toNat) ++ Y) = ptsB shortL (eachP (A ++ D)) ++ Y := fun Y => by rw [e, List.append_assoc]
  rw [e2] at hat ⊢
  have e3 : bitsL 29 5 ++ (bitsL 29 5 ++ (bitsL 15 4 ++ (shB shortL 19 ++ (ptsB shortL (eachP (A ++ D)) ++ pcsB A D l)))) = dynB A D shortL 19 (eachP (A ++ D)) l := by
    unfold dynB
    rw [fA.2.1, fD.2.1]
  rw [e3] at hat ⊢
  unfold kindR
  rw [if_neg (by omega), if_neg (by omega), if_pos rfl]
  refine dyn_say fA.1 fD.1 short_ok (by rw [fA.2.1]; omega) (by rw [fD.2.1]; omega) (by omega) short_len short_8 (fun i h1 h2 => by omega) p1 (fun q hq => ?_) (by rw [p2]; rfl) hf.1 ho hf.2 hm hat
  obtain ⟨z, hz, rfl⟩ := List.mem_map.1 hq
  have := hb z hz
  exact short_has (by simp only; omega)
end Go.Proofs.YtlhaehefhhcgaaaDoor
