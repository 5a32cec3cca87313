/-
  lines, plain: what is told of a tale; unlike tales are told unlike.
-/
import Derived.Test.YtfehgpjnlkgekaaGreatDoorLnPlain
namespace Go.Proofs.YtfehgpjnlkgekaaGreatDoor
open Go.Lib
set_option linter.unusedVariables false

def okW : List UInt8 := [111, 107]
def errW : List UInt8 := [101, 114, 114, 111, 114]
def snapW : List UInt8 := [115, 110, 97, 112]
def statW : List UInt8 := [115, 116, 97, 116]
def bytesW : List UInt8 := [98, 121, 116, 101, 115]
def digitsL : List UInt8 := [48, 49, 50, 51, 52, 53, 54, 55, 56, 57, 97, 98, 99, 100, 101, 102]
def rowL (w : List UInt8) (ns : List Int) : List UInt8 := w ++ ns.flatMap fun n => 32 :: itoa n
def hexD (n : Nat) : UInt8 := digitsL.getD n 0
def hexL (b : List Int) : List UInt8 := b.flatMap fun z => [hexD (z.toNat / 16), hexD (z.toNat % 16)]
def someL (nums snaps : List Int) : Bool := nums.any (fun n => n != 0) || !snaps.isEmpty
def statL (nums snaps : List Int) : List UInt8 := if someL nums snaps then rowL (32 :: statW) (nums ++ snaps) else []
def tellL (e sn : Int) (nums snaps b : List Int) : List UInt8 :=
  (if e = 0 then okW else rowL errW [e]) ++ (if sn = 0 then [] else rowL (32 :: snapW) [sn]) ++ statL nums snaps ++ (if b = [] then [] else 32 :: bytesW ++ 32 :: hexL b)
/-! ### Its words -/
def sp (ts : List (List UInt8)) : List UInt8 := ts.flatMap fun t => 32 :: t
theorem words_sp : ∀ (ts : List (List UInt8)) (a : List UInt8), 32 ∉ a → (∀ t ∈ ts, 32 ∉ t) → wordsL (a ++ sp ts) = a :: ts
  | [], a, h, _ => by simp only [sp, List.flatMap_nil, List.append_nil]; exact words_one h
  | t :: ts, a, h, ht => by
    show wordsL (a ++ ((32 :: t) ++ sp ts)) = _
    rw [List.cons_append, words_cut h, words_sp ts t (ht t (by simp)) (fun x hx => ht x (by simp [hx]))]
def tokE (e : Int) : List (List UInt8) := if e = 0 then [] else [itoa e]
def tokN (sn : Int) : List (List UInt8) := if sn = 0 then [] else [snapW, itoa sn]
def tokS (nums snaps : List Int) : List (List UInt8) := if someL nums snaps then statW :: (nums ++ snaps).map itoa else []
def tokB (b : List Int) : List (List UInt8) := if b = [] then [] else [bytesW, hexL b]
def headE (e : Int) : List UInt8 := if e = 0 then okW else errW
theorem sp_append (a b : List (List UInt8)) : sp (a ++ b) = sp a ++ sp b := List.flatMap_append
theorem tell_sp (e sn : Int) (nums snaps b : List Int) : tellL e sn nums snaps b = headE e ++ sp (tokE e ++ tokN sn ++ tokS nums snaps ++ tokB b) := by
  rw [sp_append, sp_append, sp_append]
  unfold tellL statL tokE tokN tokS tokB headE
  have e1 : (if e = 0 then okW else rowL errW [e]) = (if e = 0 then okW else errW) ++ sp (if e = 0 then [] else [itoa e]) := by
    split <;> simp [sp, rowL]
  have e2 : (if sn = 0 then [] else rowL (32 :: snapW) [sn]) = sp (if sn = 0 then [] else [snapW, itoa sn]) := by
    split <;> simp [sp, rowL]
  have e3 : (if someL nums snaps then rowL (32 :: statW) (nums ++ snaps) else []) = sp (if someL nums snaps then statW :: (nums ++ snaps).map itoa else []) := by
    split
    · simp [sp, rowL, List.flatMap_map]
    · rfl
  have e4 : (if b = [] then [] else 32 :: bytesW ++ 32 :: hexL b) = sp (if b = [] then [] else [bytesW, hexL b]) := by
    split <;> simp [sp]
  rw [e1, e2, e3, e4]
  simp only [List.append_assoc]
def Vis (c : UInt8) : Prop := 33 ≤ c.toNat ∧ c.toNat ≤ 126
theorem dig_vis {c : UInt8} (h : Dig c) : Vis c := by unfold Dig at h; unfold Vis; omega
theorem itoa_vis (n : Int) : ∀ c ∈ itoa n, Vis c := fun c hc => by
  unfold itoa at hc
  split at hc
  · rcases List.mem_cons.1 hc with rfl | hc
    · unfold Vis; decide
    · exact dig_vis (dd_dig _ c hc)
  · exact dig_vis (dd_dig _ c hc)
theorem hexD_vis : ∀ n, n < 16 → Vis (hexD n) := by
  have : ∀ n : Fin 16, 33 ≤ (hexD n.val).toNat ∧ (hexD n.val).toNat ≤ 126 := by decide
  exact fun n hn => this ⟨n, hn⟩
def By (b : List Int) : Prop := ∀ z ∈ b, 0 ≤ z ∧ z < 256
theorem hex_vis {b : List Int} (hb : By b) : ∀ c ∈ hexL b, Vis c := fun c hc => by
  obtain ⟨z, hz, h⟩ := List.mem_flatMap.1 hc
  have := hb z hz
  simp only [List.mem_cons, List.not_mem_nil, or_false] at h
  rcases h with rfl | rfl
  · exact hexD_vis _ (by omega)
  · exact hexD_vis _ (by omega)
theorem vis_no {t : List UInt8} (h : ∀ c ∈ t, Vis c) : 32 ∉ t := fun hm => by
  have := h 32 hm
  unfold Vis at this
  simp at this
theorem lit_vis {t : List UInt8} (h : t.all (fun c => decide (33 ≤ c.toNat) && decide (c.toNat ≤ 126)) = true) : ∀ c ∈ t, Vis c := fun c hc => by
  have := List.all_eq_true.1 h c hc
  simpa [Vis] using this
theorem head_vis (e : Int) : ∀ c ∈ headE e, Vis c := by
  unfold headE
  split
  · exact lit_vis rfl
  · exact lit_vis rfl
theorem toks_vis {b : List Int} (hb : By b) (e sn : Int) (nums snaps : List Int) : ∀ t ∈ tokE e ++ tokN sn ++ tokS nums snaps ++ tokB b, ∀ c ∈ t, Vis c := by
  intro t ht
  simp only [List.mem_append] at ht
  rcases ht with ((ht | ht) | ht) | ht
  · unfold tokE at ht
    split at ht
    · simp at ht
    · rw [List.mem_singleton] at ht; subst ht; exact itoa_vis e
  · unfold tokN at ht
    split at ht
    · simp at ht
    · simp only [List.mem_cons, List.not_mem_nil, or_false] at ht
      rcases ht with rfl | rfl
      · exact lit_vis rfl
      · exact itoa_vis sn
  · unfold tokS at ht
    split at ht
    · rcases List.mem_cons.1 ht with rfl | ht
      · exact lit_vis rfl
      · obtain ⟨n, _, rfl⟩ := List.mem_map.1 ht
        exact itoa_vis n
    · simp at ht
  · unfold tokB at ht
    split at ht
    · simp at ht
    · simp only [List.mem_cons, List.not_mem_nil, or_false] at ht
      rcases ht with rfl | rfl
      · exact lit_vis rfl
      · exact hex_vis hb
/-- No byte that is none of a line. -/
theorem tell_line {b : List Int} (hb : By b) (e sn : Int) (nums snaps : List Int) : ∀ c ∈ tellL e sn nums snaps b, 32 ≤ c.toNat ∧ c.toNat ≤ 126 := by
  intro c hc
  rw [tell_sp] at hc
  rcases List.mem_append.1 hc with hc | hc
  · have := head_vis e c hc
    unfold Vis at this; omega
  · obtain ⟨t, ht, hc⟩ := List.mem_flatMap.1 hc
    rcases List.mem_cons.1 hc with rfl | hc
    · decide
    · have := toks_vis hb e sn nums snaps t ht c hc
      unfold Vis at this; omega
theorem tell_words {b : List Int} (hb : By b) (e sn : Int) (nums snaps : List Int) : wordsL (tellL e sn nums snaps b) = headE e :: (tokE e ++ tokN sn ++ tokS nums snaps ++ tokB b) := by
  rw [tell_sp]
  exact words_sp _ _ (vis_no (head_vis e)) (fun t ht => vis_no (toks_vis hb e sn nums snaps t ht))
/-! ### Unlike tales -/
theorem itoa_inj {a b : Int} (ha : i64b a) (hb : i64b b) (h : itoa a = itoa b) : a = b := by
  have h1 := atoi_itoa ha
  rw [h, atoi_itoa hb] at h1
  injection h1 with h1
  exact h1.symm
theorem hexD_inj : ∀ i j, i < 16 → j < 16 → hexD i = hexD j → i = j := by
  have : ∀ i j : Fin 16, hexD i.val = hexD j.val → i = j := by decide
  intro i j hi hj h
  have := this ⟨i, hi⟩ ⟨j, hj⟩ h
  simpa using this
theorem hexL_inj : ∀ (a b : List Int), By a → By b → hexL a = hexL b → a = b
  | [], [], _, _, _ => rfl
  | [], z :: b, _, _, h => by simp [hexL] at h
  | z :: a, [], _, _, h => by simp [hexL] at h
  | x :: a, z :: b, ha, hb, h => by
    have hx := ha x (by simp)
    have hz := hb z (by simp)
    simp only [hexL, List.flatMap_cons, List.cons_append, List.nil_append, List.cons.injEq] at h
    have h1 := hexD_inj _ _ (by omega) (by omega) h.1
    have h2 := hexD_inj _ _ (by omega) (by omega) h.2.1
    have h3 := hexL_inj a b (fun q hq => ha q (by simp [hq])) (fun q hq => hb q (by simp [hq])) h.2.2
    rw [h3]
    congr 1
    omega
theorem itoa_first (n : Int) : ∃ c r, itoa n = c :: r ∧ (c = 45 ∨ Dig c) := by
  unfold itoa
  split
  · exact ⟨45, _, rfl, .inl rfl⟩
  · obtain ⟨c, r, e⟩ := List.exists_cons_of_ne_nil (dd_ne n.toNat)
    exact ⟨c, r, e, .inr (dd_dig n.toNat c (by rw [e]; simp))⟩
theorem bytesW_no (n : Int) : bytesW ≠ itoa n := by
  obtain ⟨c, r, e, h⟩ := itoa_first n
  intro h2
  rw [e] at h2
  unfold bytesW at h2
  injection h2 with h2 _
  subst h2
  rcases h with h | h
  · cases h
  · unfold Dig at h; simp at h
theorem nums_inj : ∀ (l l' : List Int) (b b' : List Int), (∀ n ∈ l, i64b n) → (∀ n ∈ l', i64b n) → l.map itoa ++ tokB b = l'.map itoa ++ tokB b' → l = l' ∧ tokB b = tokB b'
  | [], [], b, b', _, _, h => ⟨rfl, by simpa using h⟩
  | [], n :: l', b, b', _, _, h => by
    exfalso
    unfold tokB at h
    split at h
    · simp at h
    · simp only [List.map_nil, List.nil_append, List.map_cons, List.cons_append, List.cons.injEq] at h
      exact bytesW_no n h.1
  | n :: l, [], b, b', _, _, h => by
    exfalso
    unfold tokB at h
    split at h <;> split at h <;> simp at h
    · exact bytesW_no n h.1.symm
    · exact bytesW_no n h.1.symm
  | n :: l, m :: l', b, b', h1, h2, h => by
    simp only [List.map_cons, List.cons_append, List.cons.injEq] at h
    obtain ⟨e1, e2⟩ := nums_inj l l' b b' (fun q hq => h1 q (by simp [hq])) (fun q hq => h2 q (by simp [hq])) h.2
    exact ⟨by rw [e1, itoa_inj (h1 n (by simp)) (h2 m (by simp)) h.1], e2⟩
theorem tokB_inj {b b' : List Int} (hb : By b) (hb' : By b') (h : tokB b = tokB b') : b = b' := by
  unfold tokB at h
  split at h <;> split at h
  · simp_all
  · cases h
  · cases h
  · simp only [List.cons.injEq, and_true, true_and] at h
    exact hexL_inj b b' hb hb' h
theorem some_no {nums snaps : List Int} (h : ¬ someL nums snaps = true) : snaps = [] ∧ ∀ n ∈ nums, n = 0 := by
  unfold someL at h
  simp only [Bool.or_eq_true, not_or, List.any_eq_true, bne_iff_ne, ne_eq, not_exists, not_and, Decidable.not_not, Bool.not_eq_true', List.isEmpty_eq_false_iff] at h
  exact ⟨h.2, h.1⟩
theorem zeros_eq : ∀ (l l' : List Int), l.length = l'.length → (∀ n ∈ l, n = 0) → (∀ n ∈ l', n = 0) → l = l'
  | [], [], _, _, _ => rfl
  | [], _ :: _, h, _, _ => by cases h
  | _ :: _, [], h, _, _ => by cases h
  | a :: l, b :: l', h, h1, h2 => by
    rw [h1 a (by simp), h2 b (by simp), zeros_eq l l' (by simpa using h) (fun n hn => h1 n (by simp [hn])) (fun n hn => h2 n (by simp [hn]))]
theorem stat_inj {nums nums' snaps snaps' b b' : List Int} (hl : nums.length = nums'.length) (h1 : ∀ n ∈ nums ++ snaps, i64b n) (h2 : ∀ n ∈ nums' ++ snaps', i64b n) (h : tokS nums snaps ++ tokB b = tokS nums' snaps' ++ tokB b') :
    nums = nums' ∧ snaps = snaps' ∧ tokB b = tokB b' := by
  unfold tokS at h
  by_cases hs : someL nums snaps = true <;> by_cases hs' : someL nums' snaps' = true
  · rw [if_pos hs, if_pos hs'] at h
    simp only [List.cons_append, List.cons.injEq, true_and] at h
    obtain ⟨e1, e2⟩ := nums_inj _ _ b b' h1 h2 h
    obtain ⟨e3, e4⟩ := List.append_inj e1 hl
    exact ⟨e3, e4, e2⟩
  · rw [if_pos hs, if_neg hs'] at h
    exfalso
    unfold tokB at h
    split at h <;> split at h <;> simp [statW, bytesW] at h
  · rw [if_neg hs, if_pos hs'] at h
    exfalso
    unfold tokB at h
    split at h <;> split at h <;> simp [statW, bytesW] at h
  · rw [if_neg hs, if_neg hs'] at h
    obtain ⟨s1, z1⟩ := some_no hs
    obtain ⟨s2, z2⟩ := some_no hs'
    exact ⟨zeros_eq _ _ hl z1 z2, by rw [s1, s2], by simpa using h⟩
theorem tokSB_first {nums snaps b : List Int} {t : List UInt8} {r : List (List UInt8)} (h : tokS nums snaps ++ tokB b = t :: r) : t = statW ∨ t = bytesW := by
  unfold tokS tokB at h
  split at h <;> split at h <;> simp at h
  · exact .inl h.1.symm
  · exact .inl h.1.symm
  · exact .inr h.1.symm
theorem tell_inj {e e' sn sn' : Int} {nums nums' snaps snaps' b b' : List Int} (he : i64b e) (he' : i64b e') (hs : i64b sn) (hs' : i64b sn') (hl : nums.length = nums'.length) (h1 : ∀ n ∈ nums ++ snaps, i64b n) (h2 : ∀ n ∈ nums' ++ snaps', i64b n) (hb : By b) (hb' : By b')
    (h : tellL e sn nums snaps b = tellL e' sn' nums' snaps' b') : e = e' ∧ sn = sn' ∧ nums = nums' ∧ snaps = snaps' ∧ b = b' := by
  have hw := congrArg wordsL h
  rw [tell_words hb, tell_words hb'] at hw
  simp only [List.cons.injEq, List.append_assoc] at hw
  obtain ⟨w1, w2⟩ := hw
  have hE : e = e' ∧ tokN sn ++ (tokS nums snaps ++ tokB b) = tokN sn' ++ (tokS nums' snaps' ++ tokB b') := by
    unfold headE at w1
    unfold tokE at w2
    by_cases c : e = 0 <;> by_cases c' : e' = 0
    · rw [if_pos c, if_pos c'] at w2
      exact ⟨by omega, by simpa using w2⟩
    · rw [if_pos c, if_neg c'] at w1; cases w1
    · rw [if_neg c, if_pos c'] at w1; cases w1
    · rw [if_neg c, if_neg c'] at w2
      simp only [List.cons_append, List.nil_append, List.cons.injEq] at w2
      exact ⟨itoa_inj he he' w2.1, w2.2⟩
  obtain ⟨q1, w3⟩ := hE
  have hN : sn = sn' ∧ tokS nums snaps ++ tokB b = tokS nums' snaps' ++ tokB b' := by
    unfold tokN at w3
    by_cases c : sn = 0 <;> by_cases c' : sn' = 0
    · rw [if_pos c, if_pos c'] at w3
      exact ⟨by omega, by simpa using w3⟩
    · rw [if_pos c, if_neg c'] at w3
      simp only [List.nil_append, List.cons_append] at w3
      rcases tokSB_first w3 with h | h <;> cases h
    · rw [if_neg c, if_pos c'] at w3
      simp only [List.nil_append, List.cons_append] at w3
      rcases tokSB_first w3.symm with h | h <;> cases h
    · rw [if_neg c, if_neg c'] at w3
      simp only [List.cons_append, List.nil_append, List.cons.injEq, true_and] at w3
      exact ⟨itoa_inj hs hs' w3.1, w3.2⟩
  obtain ⟨q2, w4⟩ := hN
  obtain ⟨q3, q4, w5⟩ := stat_inj hl h1 h2 w4
  exact ⟨q1, q2, q3, q4, tokB_inj hb hb' w5⟩
end Go.Proofs.YtfehgpjnlkgekaaGreatDoor
