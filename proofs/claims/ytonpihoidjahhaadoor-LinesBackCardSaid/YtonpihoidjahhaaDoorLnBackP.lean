/-
  lines, plain: a step's line, and back.
-/
import Derived.Test.YtonpihoidjahhaaDoorLnSame
namespace Go.Proofs.YtonpihoidjahhaaDoor
open Go.Lib
set_option linter.unusedVariables false
set_option linter.unusedSimpArgs false

/-! ### Hex, back -/
theorem hexV_hexD : ∀ n, n < 16 → hexV (hexD n) = some n := by
  have : ∀ n : Fin 16, hexV (hexD n.val) = some n.val := by decide +kernel
  exact fun n h => this ⟨n, h⟩
theorem hexD_hexV {c : UInt8} {n : Nat} (h : hexV c = some n) : hexD n = c := by
  have : ∀ m : Fin 256, ∀ n : Fin 16, hexV (UInt8.ofNat m.val) = some n.val → hexD n.val = UInt8.ofNat m.val := by decide +kernel
  have h1 := this ⟨c.toNat, c.toNat_lt⟩ ⟨n, hexV_lt h⟩
  rw [show UInt8.ofNat c.toNat = c from UInt8.ofNat_toNat] at h1
  exact h1 h
theorem pairs_hex : ∀ {b : List Int}, By b → pairsL (hexL b) = some b
  | [], _ => rfl
  | z :: b, h => by
    have hz := h z (by simp)
    have ih := pairs_hex (b := b) (fun y hy => h y (by simp [hy]))
    show pairsL (hexD (z.toNat / 16) :: hexD (z.toNat % 16) :: hexL b) = _
    rw [pairsL, hexV_hexD _ (by omega), hexV_hexD _ (by omega)]
    simp only
    rw [ih]
    simp only [Option.map_some]
    congr 2
    omega
theorem hex_pairs : ∀ (t : List UInt8) (b : List Int), pairsL t = some b → hexL b = t ∧ By b
  | [], b, h => by
    simp only [pairsL, Option.some.injEq] at h
    subst h
    exact ⟨rfl, fun z hz => by cases hz⟩
  | [_], b, h => by simp [pairsL] at h
  | a :: c :: r, b, h => by
    rw [pairsL] at h
    cases ha : hexV a with
    | none => rw [ha] at h; cases h
    | some x =>
      cases hc : hexV c with
      | none => rw [ha, hc] at h; cases h
      | some y =>
        rw [ha, hc] at h
        simp only at h
        cases hr : pairsL r with
        | none => rw [hr] at h; cases h
        | some o =>
          rw [hr] at h
          simp only [Option.map_some, Option.some.injEq] at h
          subst h
          obtain ⟨h1, h2⟩ := hex_pairs r o hr
          have hx := hexV_lt ha
          have hy := hexV_lt hc
          refine ⟨?_, fun z hz => ?_⟩
          · show hexD ((((16 * x + y : Nat) : Int)).toNat / 16) :: hexD ((((16 * x + y : Nat) : Int)).toNat % 16) :: hexL o = _
            rw [Int.toNat_natCast, show (16 * x + y) / 16 = x by omega, show (16 * x + y) % 16 = y by omega, hexD_hexV ha, hexD_hexV hc, h1]
          · rcases List.mem_cons.1 hz with rfl | hz
            · omega
            · exact h2 z hz
/-- Bytes as a word. -/
def hexW (b : List Int) : List UInt8 := if b = [] then noneW else hexL b
theorem hexL_ne_none {b : List Int} (h : b ≠ []) : hexL b ≠ noneW := by
  obtain ⟨z, r, rfl⟩ := List.exists_cons_of_ne_nil h
  intro he
  have h1 : hexD (z.toNat / 16) :: hexD (z.toNat % 16) :: hexL r = [110, 111, 110, 101] := he
  simp only [List.cons.injEq] at h1
  have h2 := h1.2.1
  by_cases hlt : z.toNat % 16 < 16
  · have h3 := hexV_hexD _ hlt
    rw [h2] at h3
    exact absurd h3 (by
      have : hexV 111 = none := by decide
      rw [this]; simp)
  · omega
theorem unhex_hexW {b : List Int} (h : By b) : unhexL (hexW b) = some b := by
  unfold hexW unhexL
  by_cases hb : b = []
  · subst hb
    rfl
  · rw [if_neg hb, if_neg (hexL_ne_none hb), if_neg (by
      obtain ⟨z, r, rfl⟩ := List.exists_cons_of_ne_nil hb
      intro he
      have : hexD (z.toNat / 16) :: hexD (z.toNat % 16) :: hexL r = [] := he
      cases this), pairs_hex h]
theorem hexW_unhex {t : List UInt8} {b : List Int} (h : unhexL t = some b) : hexW b = t ∧ By b := by
  unfold unhexL at h
  by_cases h1 : t = noneW
  · rw [if_pos h1] at h
    injection h with h
    subst h h1
    exact ⟨rfl, fun z hz => by cases hz⟩
  · rw [if_neg h1] at h
    by_cases h2 : t = []
    · rw [if_pos h2] at h; cases h
    · rw [if_neg h2] at h
      obtain ⟨h3, h4⟩ := hex_pairs t b h
      refine ⟨?_, h4⟩
      unfold hexW
      rw [if_neg (fun e => h2 (by rw [← h3, e]; rfl)), h3]
/-! ### A step's line -/
def toksL (x : StepV) : List (List UInt8) :=
  if x.kind = 1 ∨ x.kind = 3 then [itoa x.pos, itoa x.n]
  else if x.kind = 2 then [itoa x.pos, hexW x.bytes]
  else if x.kind = 6 ∨ x.kind = 7 then [itoa x.snap]
  else if x.kind = 8 then [itoa x.snap, itoa x.pos, itoa x.n]
  else if x.kind = 9 ∨ x.kind = 11 then [itoa x.n]
  else if x.kind = 10 then x.fates.map itoa
  else []
def wordK (k : Int) : List UInt8 :=
  if k = 1 then [114, 101, 97, 100] else if k = 2 then [119, 114, 105, 116, 101] else if k = 3 then [100, 105, 115, 99, 97, 114, 100] else if k = 4 then [102, 108, 117, 115, 104]
  else if k = 5 then [115, 110, 97, 112, 115, 104, 111, 116] else if k = 6 then [100, 101, 108, 101, 116, 101] else if k = 7 then [114, 111, 108, 108, 98, 97, 99, 107] else if k = 8 then [114, 101, 97, 100, 115, 110, 97, 112]
  else if k = 9 then [99, 108, 101, 97, 110] else if k = 10 then [99, 114, 97, 115, 104] else if k = 11 then [97, 114, 109] else if k = 12 then [115, 116, 97, 116] else []
def lineL (x : StepV) : List UInt8 := if 1 ≤ x.kind ∧ x.kind ≤ 12 then wordK x.kind ++ sp (toksL x) else []
def bareS (x : StepV) : StepV :=
  if x.kind = 1 ∨ x.kind = 3 then ⟨x.kind, x.pos, x.n, 0, [], []⟩
  else if x.kind = 2 then ⟨x.kind, x.pos, 0, 0, x.bytes, []⟩
  else if x.kind = 6 ∨ x.kind = 7 then ⟨x.kind, 0, 0, x.snap, [], []⟩
  else if x.kind = 8 then ⟨x.kind, x.pos, x.n, x.snap, [], []⟩
  else if x.kind = 9 ∨ x.kind = 11 then ⟨x.kind, 0, x.n, 0, [], []⟩
  else if x.kind = 10 then ⟨x.kind, 0, 0, 0, [], x.fates⟩
  else ⟨x.kind, 0, 0, 0, [], []⟩
theorem num_itoa {v : Int} (h : i64b v) : numL (itoa v) = some v := num_iff.2 ⟨rfl, h⟩
theorem fates_map : ∀ {l : List Int}, (∀ z ∈ l, i64b z) → fatesL (l.map itoa) = some l
  | [], _ => rfl
  | z :: l, h => by
    rw [List.map_cons, fatesL, num_itoa (h z (by simp))]
    simp only
    rw [fates_map (fun y hy => h y (by simp [hy]))]
    rfl
theorem map_fates : ∀ (ts : List (List UInt8)) (l : List Int), fatesL ts = some l → l.map itoa = ts ∧ ∀ z ∈ l, i64b z
  | [], l, h => by
    simp only [fatesL, Option.some.injEq] at h
    subst h
    exact ⟨rfl, fun z hz => by cases hz⟩
  | t :: ts, l, h => by
    rw [fatesL] at h
    cases hn : numL t with
    | none => rw [hn] at h; cases h
    | some v =>
      rw [hn] at h
      simp only at h
      cases hr : fatesL ts with
      | none => rw [hr] at h; cases h
      | some o =>
        rw [hr] at h
        simp only [Option.map_some, Option.some.injEq] at h
        subst h
        obtain ⟨h1, h2⟩ := map_fates ts o hr
        obtain ⟨h3, h4⟩ := num_iff.1 hn
        refine ⟨by rw [List.map_cons, h1, h3], fun z hz => ?_⟩
        rcases List.mem_cons.1 hz with rfl | hz
        · exact h4
        · exact h2 z hz
theorem itoa_no (n : Int) : 32 ∉ itoa n := vis_no (itoa_vis n)
theorem hexW_no {b : List Int} (h : By b) : 32 ∉ hexW b := by
  unfold hexW
  split
  · decide
  · exact vis_no (hex_vis h)
structure StepOk (x : StepV) : Prop where
  k0 : 0 ≤ x.kind
  k1 : x.kind < 256
  p : i64b x.pos
  n : i64b x.n
  s : i64b x.snap
  b : By x.bytes
  f : ∀ z ∈ x.fates, i64b z
theorem toks_no {x : StepV} (h : StepOk x) : ∀ t ∈ toksL x, 32 ∉ t := by
  intro t ht
  unfold toksL at ht
  split at ht
  · simp only [List.mem_cons, List.not_mem_nil, or_false] at ht
    rcases ht with rfl | rfl
    · exact itoa_no _
    · exact itoa_no _
  · split at ht
    · simp only [List.mem_cons, List.not_mem_nil, or_false] at ht
      rcases ht with rfl | rfl
      · exact itoa_no _
      · exact hexW_no h.b
    · split at ht
      · simp only [List.mem_cons, List.not_mem_nil, or_false] at ht
        subst ht
        exact itoa_no _
      · split at ht
        · simp only [List.mem_cons, List.not_mem_nil, or_false] at ht
          rcases ht with rfl | rfl | rfl
          · exact itoa_no _
          · exact itoa_no _
          · exact itoa_no _
        · split at ht
          · simp only [List.mem_cons, List.not_mem_nil, or_false] at ht
            subst ht
            exact itoa_no _
          · split at ht
            · obtain ⟨z, _, rfl⟩ := List.mem_map.1 ht
              exact itoa_no _
            · cases ht
theorem wordK_no : ∀ k : Nat, k ≤ 12 → 32 ∉ wordK (k : Int) := by
  intro k hk
  have : ∀ j : Fin 13, 32 ∉ wordK ((j.val : Nat) : Int) := by decide
  exact this ⟨k, by omega⟩
/-- A bare step's line says it. -/
theorem step_line {x : StepV} (h : StepOk x) (hk : 1 ≤ x.kind ∧ x.kind ≤ 12) (hb : bareS x = x) : stepL (lineL x) = some x := by
  have hw : wordsL (lineL x) = wordK x.kind :: toksL x := by
    unfold lineL
    rw [if_pos hk]
    refine words_sp _ _ ?_ (toks_no h)
    have := wordK_no x.kind.toNat (by omega)
    rwa [show ((x.kind.toNat : Nat) : Int) = x.kind by omega] at this
  unfold stepL
  rw [hw]
  simp only
  obtain ⟨kind, pos, n, snap, bytes, fates⟩ := x
  simp only at hk
  have hp := num_itoa h.p
  have hn := num_itoa h.n
  have hs := num_itoa h.s
  have hbt := unhex_hexW h.b
  have hf := fates_map h.f
  simp only at hp hn hs hbt hf
  rcases (by omega : kind = 1 ∨ kind = 2 ∨ kind = 3 ∨ kind = 4 ∨ kind = 5 ∨ kind = 6 ∨ kind = 7 ∨ kind = 8 ∨ kind = 9 ∨ kind = 10 ∨ kind = 11 ∨ kind = 12) with rfl | rfl | rfl | rfl | rfl | rfl | rfl | rfl | rfl | rfl | rfl | rfl
  all_goals
    simp only [bareS, StepV.mk.injEq] at hb
    simp at hb
    first
      | (obtain ⟨rfl, rfl, rfl, rfl, rfl⟩ := hb)
      | (obtain ⟨rfl, rfl, rfl, rfl⟩ := hb)
      | (obtain ⟨rfl, rfl, rfl⟩ := hb)
      | (obtain ⟨rfl, rfl⟩ := hb)
      | skip
    simp [readL, shapeL, wordK, toksL, followX, fieldX, fieldL, zeroS, hp, hn, hs, hbt, hf]
theorem itoa_len' {n : Int} (h : i64b n) : (itoa n).length ≤ 21 := Lib.itoa_length_le n h.1 h.2
theorem fates_len : ∀ (l : List Int), (∀ z ∈ l, i64b z) → (sp (l.map itoa)).length ≤ 22 * l.length
  | [], _ => by simp [sp]
  | z :: l, h => by
    have ih := fates_len l (fun y hy => h y (by simp [hy]))
    have := itoa_len' (h z (by simp))
    simp only [sp, List.map_cons, List.flatMap_cons, List.length_append, List.length_cons] at ih ⊢
    omega
/-! ### .. and back -/
theorem words_join : ∀ (l w : List UInt8) (ws : List (List UInt8)), wordsL l = w :: ws → w ++ sp ws = l
  | [], w, ws, h => by
    simp only [wordsL, List.cons.injEq] at h
    obtain ⟨rfl, rfl⟩ := h
    rfl
  | c :: r, w, ws, h => by
    obtain ⟨a, b, hr⟩ := List.exists_cons_of_ne_nil (words_ne r)
    have ih := words_join r a b hr
    by_cases hc : c = 32
    · subst hc
      rw [words_space, hr] at h
      simp only [List.cons.injEq] at h
      obtain ⟨rfl, rfl⟩ := h
      show 32 :: (a ++ sp b) = _
      rw [ih]
    · rw [words_other hc, hr] at h
      simp only [glue, List.cons.injEq] at h
      obtain ⟨rfl, rfl⟩ := h
      rw [List.append_assoc, ih]
      rfl
theorem shape_word (l : List UInt8) : (shapeL l).1 = 0 ∨ ∃ k : Nat, 1 ≤ k ∧ k ≤ 12 ∧ l = wordK (k : Int) := by
  unfold shapeL
  by_cases c1 : l = [114, 101, 97, 100]
  · exact .inr ⟨1, by decide, by decide, c1⟩
  by_cases c2 : l = [119, 114, 105, 116, 101]
  · exact .inr ⟨2, by decide, by decide, c2⟩
  by_cases c3 : l = [100, 105, 115, 99, 97, 114, 100]
  · exact .inr ⟨3, by decide, by decide, c3⟩
  by_cases c4 : l = [102, 108, 117, 115, 104]
  · exact .inr ⟨4, by decide, by decide, c4⟩
  by_cases c5 : l = [115, 110, 97, 112, 115, 104, 111, 116]
  · exact .inr ⟨5, by decide, by decide, c5⟩
  by_cases c6 : l = [100, 101, 108, 101, 116, 101]
  · exact .inr ⟨6, by decide, by decide, c6⟩
  by_cases c7 : l = [114, 111, 108, 108, 98, 97, 99, 107]
  · exact .inr ⟨7, by decide, by decide, c7⟩
  by_cases c8 : l = [114, 101, 97, 100, 115, 110, 97, 112]
  · exact .inr ⟨8, by decide, by decide, c8⟩
  by_cases c9 : l = [99, 108, 101, 97, 110]
  · exact .inr ⟨9, by decide, by decide, c9⟩
  by_cases c10 : l = [99, 114, 97, 115, 104]
  · exact .inr ⟨10, by decide, by decide, c10⟩
  by_cases c11 : l = [97, 114, 109]
  · exact .inr ⟨11, by decide, by decide, c11⟩
  by_cases c12 : l = [115, 116, 97, 116]
  · exact .inr ⟨12, by decide, by decide, c12⟩
  left
  rw [if_neg c1, if_neg c2, if_neg c3, if_neg c4, if_neg c5, if_neg c6, if_neg c7, if_neg c8, if_neg c9, if_neg c10, if_neg c11, if_neg c12]
theorem follow_cons {f : UInt8} {fs : List UInt8} {i : Nat} {rest : List (List UInt8)} {x y : StepV} (h : followX (f :: fs) i rest x = some y) : ∃ m, fieldX f i rest x = some m ∧ followX fs (i + 1) rest m = some y := by
  rw [followX] at h
  cases hm : fieldX f i rest x with
  | none => rw [hm] at h; cases h
  | some m => rw [hm] at h; exact ⟨m, rfl, h⟩
theorem field_num {f : UInt8} {i : Nat} {rest : List (List UInt8)} {x m : StepV} {t : List UInt8} (h : fieldX f i rest x = some m) (ht : rest[i]? = some t) :
    (f = 97 → ∃ v, t = itoa v ∧ i64b v ∧ m = { x with pos := v }) ∧ (f = 110 → ∃ v, t = itoa v ∧ i64b v ∧ m = { x with n := v }) ∧ (f = 115 → ∃ v, t = itoa v ∧ i64b v ∧ m = { x with snap := v }) ∧ (f = 98 → ∃ b, t = hexW b ∧ By b ∧ m = { x with bytes := b }) := by
  unfold fieldX at h
  have num : ∀ g : Int → StepV, (numL t).map g = some m → ∃ v, t = itoa v ∧ i64b v ∧ m = g v := fun g hg => by
    cases hn : numL t with
    | none => rw [hn] at hg; cases hg
    | some v =>
      rw [hn] at hg
      simp only [Option.map_some, Option.some.injEq] at hg
      obtain ⟨h1, h2⟩ := num_iff.1 hn
      exact ⟨v, h1, h2, hg.symm⟩
  refine ⟨?_, ?_, ?_, ?_⟩
  · rintro rfl
    rw [if_neg (by decide), ht] at h
    exact num _ (by simpa [fieldL] using h)
  · rintro rfl
    rw [if_neg (by decide), ht] at h
    exact num _ (by simpa [fieldL] using h)
  · rintro rfl
    rw [if_neg (by decide), ht] at h
    exact num _ (by simpa [fieldL] using h)
  · rintro rfl
    rw [if_neg (by decide), ht] at h
    have h2 : (unhexL t).map (fun b => { x with bytes := b }) = some m := by simpa [fieldL] using h
    cases hn : unhexL t with
    | none => rw [hn] at h2; cases h2
    | some b =>
      rw [hn] at h2
      simp only [Option.map_some, Option.some.injEq] at h2
      obtain ⟨h3, h4⟩ := hexW_unhex hn
      exact ⟨b, h3.symm, h4, h2.symm⟩
def folK (k : Nat) : List UInt8 := if k = 1 ∨ k = 3 then [97, 110] else if k = 2 then [97, 98] else if k = 6 ∨ k = 7 then [115] else if k = 8 then [115, 97, 110] else if k = 9 ∨ k = 11 then [110] else if k = 10 then [102] else []
theorem shape_wordK : ∀ k : Nat, 1 ≤ k → k ≤ 12 → shapeL (wordK (k : Int)) = ((k : Int), folK k) := by
  intro k h1 h2
  have : ∀ j : Fin 13, 1 ≤ j.val → shapeL (wordK ((j.val : Nat) : Int)) = ((j.val : Int), folK j.val) := by decide
  exact this ⟨k, by omega⟩ h1
theorem read_word {k : Nat} {rest : List (List UInt8)} {y : StepV} (h : readL (wordK (k : Int)) rest = some y) (h1 : 1 ≤ k) (h2 : k ≤ 12) : (k ≠ 10 → rest.length = (folK k).length) ∧ followX (folK k) 0 rest (zeroS k) = some y := by
  unfold readL at h
  rw [shape_wordK k h1 h2] at h
  simp only at h
  rw [if_neg (by omega)] at h
  by_cases hc : ((k : Int) ≠ 10 ∧ rest.length ≠ (folK k).length)
  · rw [if_pos hc] at h; cases h
  · rw [if_neg hc] at h
    exact ⟨fun hk => by
      rcases Nat.decEq rest.length (folK k).length with hn | hn
      · exact absurd ⟨by omega, hn⟩ hc
      · exact hn, h⟩
theorem len1 {α : Type} {l : List α} (h : l.length = 1) : ∃ a, l = [a] := List.length_eq_one_iff.1 h
theorem len2 {α : Type} {l : List α} (h : l.length = 2) : ∃ a b, l = [a, b] := by
  match l, h with
  | [a, b], _ => exact ⟨a, b, rfl⟩
theorem len3 {α : Type} {l : List α} (h : l.length = 3) : ∃ a b c, l = [a, b, c] := by
  match l, h with
  | [a, b, c], _ => exact ⟨a, b, c, rfl⟩
theorem i64_0 : i64b 0 := by unfold i64b; decide
theorem By_nil : By [] := fun z hz => by cases hz
/-- What is read of a line is written as that line. -/
theorem line_step {l : List UInt8} {y : StepV} (h : stepL l = some y) : lineL y = l ∧ bareS y = y ∧ StepOk y := by
  obtain ⟨w0, rest, hw⟩ := List.exists_cons_of_ne_nil (words_ne l)
  have hj := words_join l w0 rest hw
  unfold stepL at h
  rw [hw] at h
  simp only at h
  rcases shape_word w0 with h0 | ⟨k, k1, k2, rfl⟩
  · unfold readL at h
    rw [if_pos h0] at h
    cases h
  obtain ⟨hl, hf⟩ := read_word h k1 k2
  have key : lineL y = wordK (k : Int) ++ sp rest ∧ bareS y = y ∧ StepOk y := by
    have e12 : ∀ k : Nat, 1 ≤ k → k ≤ 12 → (1 : Int) ≤ (k : Int) ∧ (k : Int) ≤ 12 := fun k a b => ⟨by omega, by omega⟩
    rcases (by omega : k = 1 ∨ k = 2 ∨ k = 3 ∨ k = 4 ∨ k = 5 ∨ k = 6 ∨ k = 7 ∨ k = 8 ∨ k = 9 ∨ k = 10 ∨ k = 11 ∨ k = 12) with rfl | rfl | rfl | rfl | rfl | rfl | rfl | rfl | rfl | rfl | rfl | rfl
    · obtain ⟨t1, t2, rfl⟩ := len2 (hl (by decide))
      obtain ⟨m1, e1, hf⟩ := follow_cons (f := 97) (fs := [110]) hf
      obtain ⟨m2, e2, hf⟩ := follow_cons hf
      obtain ⟨a, rfl, ha, rfl⟩ := (field_num e1 rfl).1 rfl
      obtain ⟨b, rfl, hb, rfl⟩ := (field_num e2 rfl).2.1 rfl
      simp only [followX, Option.some.injEq] at hf
      subst hf
      exact ⟨rfl, rfl, ⟨show (0 : Int) ≤ ((1 : Nat) : Int) by decide, show ((1 : Nat) : Int) < 256 by decide, ha, hb, i64_0, By_nil, fun z hz => by cases hz⟩⟩
    · obtain ⟨t1, t2, rfl⟩ := len2 (hl (by decide))
      obtain ⟨m1, e1, hf⟩ := follow_cons (f := 97) (fs := [98]) hf
      obtain ⟨m2, e2, hf⟩ := follow_cons hf
      obtain ⟨a, rfl, ha, rfl⟩ := (field_num e1 rfl).1 rfl
      obtain ⟨b, rfl, hb, rfl⟩ := (field_num e2 rfl).2.2.2 rfl
      simp only [followX, Option.some.injEq] at hf
      subst hf
      exact ⟨rfl, rfl, ⟨show (0 : Int) ≤ ((2 : Nat) : Int) by decide, show ((2 : Nat) : Int) < 256 by decide, ha, i64_0, i64_0, hb, fun z hz => by cases hz⟩⟩
    · obtain ⟨t1, t2, rfl⟩ := len2 (hl (by decide))
      obtain ⟨m1, e1, hf⟩ := follow_cons (f := 97) (fs := [110]) hf
      obtain ⟨m2, e2, hf⟩ := follow_cons hf
      obtain ⟨a, rfl, ha, rfl⟩ := (field_num e1 rfl).1 rfl
      obtain ⟨b, rfl, hb, rfl⟩ := (field_num e2 rfl).2.1 rfl
      simp only [followX, Option.some.injEq] at hf
      subst hf
      exact ⟨rfl, rfl, ⟨show (0 : Int) ≤ ((3 : Nat) : Int) by decide, show ((3 : Nat) : Int) < 256 by decide, ha, hb, i64_0, By_nil, fun z hz => by cases hz⟩⟩
    · have hr : rest = [] := List.eq_nil_of_length_eq_zero (hl (by decide))
      subst hr
      have hf2 : some (zeroS ((4 : Nat) : Int)) = some y := hf
      injection hf2 with hf2
      subst hf2
      exact ⟨rfl, rfl, ⟨show (0 : Int) ≤ ((4 : Nat) : Int) by decide, show ((4 : Nat) : Int) < 256 by decide, i64_0, i64_0, i64_0, By_nil, fun z hz => by cases hz⟩⟩
    · have hr : rest = [] := List.eq_nil_of_length_eq_zero (hl (by decide))
      subst hr
      have hf2 : some (zeroS ((5 : Nat) : Int)) = some y := hf
      injection hf2 with hf2
      subst hf2
      exact ⟨rfl, rfl, ⟨show (0 : Int) ≤ ((5 : Nat) : Int) by decide, show ((5 : Nat) : Int) < 256 by decide, i64_0, i64_0, i64_0, By_nil, fun z hz => by cases hz⟩⟩
    · obtain ⟨t1, rfl⟩ := len1 (hl (by decide))
      obtain ⟨m1, e1, hf⟩ := follow_cons (f := 115) (fs := []) hf
      obtain ⟨a, rfl, ha, rfl⟩ := (field_num e1 rfl).2.2.1 rfl
      simp only [followX, Option.some.injEq] at hf
      subst hf
      exact ⟨rfl, rfl, ⟨show (0 : Int) ≤ ((6 : Nat) : Int) by decide, show ((6 : Nat) : Int) < 256 by decide, i64_0, i64_0, ha, By_nil, fun z hz => by cases hz⟩⟩
    · obtain ⟨t1, rfl⟩ := len1 (hl (by decide))
      obtain ⟨m1, e1, hf⟩ := follow_cons (f := 115) (fs := []) hf
      obtain ⟨a, rfl, ha, rfl⟩ := (field_num e1 rfl).2.2.1 rfl
      simp only [followX, Option.some.injEq] at hf
      subst hf
      exact ⟨rfl, rfl, ⟨show (0 : Int) ≤ ((7 : Nat) : Int) by decide, show ((7 : Nat) : Int) < 256 by decide, i64_0, i64_0, ha, By_nil, fun z hz => by cases hz⟩⟩
    · obtain ⟨t1, t2, t3, rfl⟩ := len3 (hl (by decide))
      obtain ⟨m1, e1, hf⟩ := follow_cons (f := 115) (fs := [97, 110]) hf
      obtain ⟨m2, e2, hf⟩ := follow_cons hf
      obtain ⟨m3, e3, hf⟩ := follow_cons hf
      obtain ⟨a, rfl, ha, rfl⟩ := (field_num e1 rfl).2.2.1 rfl
      obtain ⟨b, rfl, hb, rfl⟩ := (field_num e2 rfl).1 rfl
      obtain ⟨c, rfl, hc, rfl⟩ := (field_num e3 rfl).2.1 rfl
      simp only [followX, Option.some.injEq] at hf
      subst hf
      exact ⟨rfl, rfl, ⟨show (0 : Int) ≤ ((8 : Nat) : Int) by decide, show ((8 : Nat) : Int) < 256 by decide, hb, hc, ha, By_nil, fun z hz => by cases hz⟩⟩
    · obtain ⟨t1, rfl⟩ := len1 (hl (by decide))
      obtain ⟨m1, e1, hf⟩ := follow_cons (f := 110) (fs := []) hf
      obtain ⟨a, rfl, ha, rfl⟩ := (field_num e1 rfl).2.1 rfl
      simp only [followX, Option.some.injEq] at hf
      subst hf
      exact ⟨rfl, rfl, ⟨show (0 : Int) ≤ ((9 : Nat) : Int) by decide, show ((9 : Nat) : Int) < 256 by decide, i64_0, ha, i64_0, By_nil, fun z hz => by cases hz⟩⟩
    · obtain ⟨m1, e1, hf⟩ := follow_cons (f := 102) (fs := []) hf
      unfold fieldX at e1
      rw [if_pos rfl] at e1
      cases hr : fatesL rest with
      | none => rw [hr] at e1; cases e1
      | some fl =>
        rw [hr] at e1
        simp only [Option.map_some, Option.some.injEq] at e1
        subst e1
        simp only [followX, Option.some.injEq] at hf
        subst hf
        obtain ⟨h3, h4⟩ := map_fates rest fl hr
        refine ⟨?_, rfl, ⟨show (0 : Int) ≤ ((10 : Nat) : Int) by decide, show ((10 : Nat) : Int) < 256 by decide, i64_0, i64_0, i64_0, By_nil, fun z hz => h4 z (by simpa [zeroS] using hz)⟩⟩
        rw [← h3]
        rfl
    · obtain ⟨t1, rfl⟩ := len1 (hl (by decide))
      obtain ⟨m1, e1, hf⟩ := follow_cons (f := 110) (fs := []) hf
      obtain ⟨a, rfl, ha, rfl⟩ := (field_num e1 rfl).2.1 rfl
      simp only [followX, Option.some.injEq] at hf
      subst hf
      exact ⟨rfl, rfl, ⟨show (0 : Int) ≤ ((11 : Nat) : Int) by decide, show ((11 : Nat) : Int) < 256 by decide, i64_0, ha, i64_0, By_nil, fun z hz => by cases hz⟩⟩
    · have hr : rest = [] := List.eq_nil_of_length_eq_zero (hl (by decide))
      subst hr
      have hf2 : some (zeroS ((12 : Nat) : Int)) = some y := hf
      injection hf2 with hf2
      subst hf2
      exact ⟨rfl, rfl, ⟨show (0 : Int) ≤ ((12 : Nat) : Int) by decide, show ((12 : Nat) : Int) < 256 by decide, i64_0, i64_0, i64_0, By_nil, fun z hz => by cases hz⟩⟩
  rw [hj] at key
  exact key
theorem line_len {x : StepV} (h : StepOk x) : (lineL x).length ≤ 100 + 22 * x.fates.length + 2 * x.bytes.length := by
  have l1 := itoa_len' h.p
  have l2 := itoa_len' h.n
  have l3 := itoa_len' h.s
  have lw : (wordK x.kind).length ≤ 8 := by
    have key : ∀ p : List UInt8, p ∈ ([[114, 101, 97, 100], [119, 114, 105, 116, 101], [100, 105, 115, 99, 97, 114, 100], [102, 108, 117, 115, 104], [115, 110, 97, 112, 115, 104, 111, 116], [100, 101, 108, 101, 116, 101], [114, 111, 108, 108, 98, 97, 99, 107], [114, 101, 97, 100, 115, 110, 97, 112], [99, 108, 101, 97, 110], [99, 114, 97, 115, 104], [97, 114, 109], [115, 116, 97, 116], []] : List (List UInt8)) → p.length ≤ 8 := by decide
    refine key _ ?_
    unfold wordK
    repeat (refine ite_in (by decide) ?_)
    decide
  have lh : (hexW x.bytes).length ≤ 4 + 2 * x.bytes.length := by
    unfold hexW
    split
    · have : noneW.length = 4 := rfl
      omega
    · rw [hexL_len]; omega
  have lf : (sp (x.fates.map itoa)).length ≤ 22 * x.fates.length := fates_len x.fates h.f
  have ls : (sp (toksL x)).length ≤ 92 + 22 * x.fates.length + 2 * x.bytes.length := by
    have s1 : ∀ a : List UInt8, (sp [a]).length = a.length + 1 := fun a => by simp [sp]
    have s2 : ∀ a b : List UInt8, (sp [a, b]).length = a.length + 1 + (b.length + 1) := fun a b => by simp [sp]; omega
    have s3 : ∀ a b c : List UInt8, (sp [a, b, c]).length = a.length + 1 + (b.length + 1 + (c.length + 1)) := fun a b c => by simp [sp]; omega
    have s0 : (sp []).length = 0 := rfl
    unfold toksL
    repeat' split
    · rw [s2]; omega
    · rw [s2]; omega
    · rw [s1]; omega
    · rw [s3]; omega
    · rw [s1]; omega
    · omega
    · rw [s0]; omega
  unfold lineL
  split
  · rw [List.length_append]; omega
  · simp
end Go.Proofs.YtonpihoidjahhaaDoor
