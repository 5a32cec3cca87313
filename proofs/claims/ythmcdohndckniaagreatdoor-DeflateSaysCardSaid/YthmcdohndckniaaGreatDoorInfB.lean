/-
  inflate's rows of lengths, walked.
  inflate's blocks with codes of their own, walked.
  inflate.Inflate, walked.
  Plain: a text that may be as long as it is; one that may not.
  What Inflate hands back, as one value.
-/
import Derived.Test.YthmcdohndckniaaGreatDoorInfA
import Derived.Test.YthmcdohndckniaaGreatDoorMem
import Derived.Test.YthmcdohndckniaaGreatDoorInfSpec
import Derived.Laws.BytesArg
import Derived.ProofKit
namespace Go.Proofs.YthmcdohndckniaaGreatDoor
open Go.RowKit
set_option linter.unusedVariables false

theorem StStep.int {w0 w w' : World} {base s r b2 n : Nat} {u : Value} {xs : List Value} (h : StStep w0 w base s r) (ho : w.ownsRow b2 3 1 u n xs) (hb2 : w0.heap.size ≤ b2) (hbase : base ≤ w0.heap.size) (hg : w.grownBy w' u.ownBlock) : StStep w0 w' base s r := by
  have hlo : ∀ b, b < w0.heap.size → some b ≠ u.ownBlock := fun b hb e => by have := own_base ho e.symm; omega
  have hs := h.size
  exact ⟨hg.os.trans h.os, hg.tape.trans h.tape, hg.output.trans h.output, Nat.le_trans h.size hg.size, fun k hk h1 h2 => (hg.block k (by omega) (hlo k (by omega))).trans (h.low k hk h1 h2), fun k hk ht h1 h2 => (hg.block k (by omega) (hlo k hk)).trans (h.typ k hk ht h1 h2)⟩

/-- A step that reads, the first. -/
theorem took_next2 {T1 : Res Nat} {v p2 : Nat} {e2 : Int} {T : Res (List Int)} {G : Nat → Nat → Res (List Int)} (hb : ∀ b, T1 = .bad b → b = false) (h1 : T = T1.bind G) (h : Took 0 T1 v p2 e2) :
    (e2 = 4 ∧ T = .bad false) ∨ (e2 = 0 ∧ T = G v p2) := took_next hb (.inr ⟨rfl, h1⟩) h
theorem took_num {e2 e4 : Int} {bt : List Int} {p2 m x p4 : Nat} {T : Res (List Int)} {F : Nat → Nat → Res (Int × Nat)} {G : Int × Nat → Nat → Res (List Int)} (h1 : (e2 = 4 ∧ T = .bad false) ∨ (e2 = 0 ∧ T = ((numR bt p2 m).bind F).bind G)) (h : Took e2 (numR bt p2 m) x p4 e4) :
    (e4 = 4 ∧ T = .bad false) ∨ (e4 = 0 ∧ T = (F x p4).bind G) := by
  refine took_next (T1 := numR bt p2 m) (G := fun x p => (F x p).bind G) (fun b => numR_bad) (h1.imp id (fun ⟨a, b⟩ => ⟨a, ?_⟩)) h
  rw [b]
  cases numR bt p2 m <;> rfl
theorem own_cap {w : World} {base : Nat} {e : TypeId} {size n c : Nat} {A : Option Addr} {xs : List Value} (h : w.ownsRow base e size (.slice A n c) n xs) : n ≤ c := by
  obtain ⟨A', c', e, hc⟩ := own_slice h
  injection e with _ _ e
  omega
def LensAgree (T : Res (List Int)) (n : Nat) (w' : World) (A : Option Addr) (m p' : Nat) (e' : Int) : Prop := match T with
  | .ok all q => e' = 0 ∧ p' = q ∧ m = n ∧ RdI .i64 w' A n all
  | .bad b => e' = errOf b
theorem tailend {T T' : Res (List Int)} {e : Int} {p1 p2 f len L n : Nat} (h : (e = 4 ∧ T = .bad false) ∨ (e = 0 ∧ T = T' ∧ p1 < p2)) (hk : len + 1 ≤ f + 1 + p1) (hL : L ≤ n) : (e = 0 ∧ T = T' ∧ len + 1 ≤ f + p2 ∧ L ≤ n) ∨ (e = 4 ∧ T = .bad false) := by
  rcases h with h | ⟨a, b, c⟩
  · exact .inr h
  · exact .inl ⟨a, b, by omega, hL⟩
end Go.Proofs.YthmcdohndckniaaGreatDoor
namespace Go.Proofs.YthmcdohndckniaaGreatDoor
open Go.RowKit
set_option linter.unusedVariables false

theorem shortsR_bad {bt : List Int} {p i : Nat} {b : Bool} (h : shortsR bt i p = .bad b) : ∀ d, shortsR bt (i + d) p = .bad b
  | 0 => h
  | d + 1 => by rw [← Nat.add_assoc, shortsR, shortsR_bad h d]; rfl
theorem ord_bd : ∀ i, i < 19 → 0 ≤ orderL.getD i 0 ∧ orderL.getD i 0 < 19 := by decide

def dynG (bt : List Int) (most : Nat) (out : List Int) (n m : Nat) (sh : List Int) (p : Nat) : Res (List Int) :=
  if countsOk sh = true then
    (lensR bt sh (257 + n + (1 + m)) (bt.length + 1) [] p).bind fun all p =>
      if all.getD 256 0 = 0 then .bad false else codedR bt most (all.take (257 + n)) (all.drop (257 + n)) out p
  else .bad false
end Go.Proofs.YthmcdohndckniaaGreatDoor
namespace Go.Proofs.YthmcdohndckniaaGreatDoor
open Go.RowKit
set_option linter.unusedVariables false

theorem end_num (p : Nat) (h : p ≤ 8000000000) : IntKind.i64.wrap (((p : Int) + 8 - 1).tdiv 8) = (((p + 7) / 8 : Nat) : Int) := by
  rw [Int.tdiv_eq_ediv_of_nonneg (by omega), IntWalk.i64_in _ (by omega)]
  omega
theorem num_yes {bt : List Int} {p n : Nat} (h : p + n ≤ bt.length) : numR bt p n = .ok (numOf ((bt.drop p).take n)) (p + n) := by
  unfold numR; rw [if_pos h]

theorem own_from {w : World} {b b2 : Nat} {e : TypeId} {size n : Nat} {v : Value} {xs : List Value} (h : w.ownsRow b e size v n xs) (hb : ∀ j, v.ownBlock = some j → b2 ≤ j) : w.ownsRow b2 e size v n xs := by
  refine ⟨h.1, h.2.imp id ?_⟩
  rintro ⟨g', cap, cur, rfl, a1, a2⟩
  exact ⟨g', cap, cur, rfl, hb g' rfl, a2⟩
def InfAgree (T : Res (List Int)) (w : World) (ev : Ending) (w' : World) : Prop := match T with
  | .ok out p => ∃ A c, ev = .returned (.tuple #[.slice A out.length c, .int .i64 (((p + 7) / 8 : Nat) : Int), .int .i64 0]) ∧ w'.ownsRow w.heap.size 5 1 (.slice A out.length c) out.length (out.map (Value.int .u8)) ∧ Bytes out
  | .bad b => ev = .returned (.tuple #[.slice none 0 0, .int .i64 0, .int .i64 (errOf b)])
def InfPost (bs : List Int) (most : Int) (w : World) (ev : Ending) (w' : World) : Prop :=
  Below w.heap.size w w' ∧ if most < 0 ∨ 65536 < most then ev = .returned (.tuple #[.slice none 0 0, .int .i64 0, .int .i64 2]) else InfAgree (inflateR (bitsOf bs) most.toNat) w ev w'

theorem after_block {T R : Res (List Int)} {o6 : List Int} {p p6 la f len : Nat} {e6 : Int} {B : List Int → Nat → Res (List Int)} (ag : Agree R o6 p6 e6) (hT : T = R.bind fun out p => if la = 0 then B out p else .ok out p) (hmono : ∀ a q, R = .ok a q → p + 1 + 2 ≤ q) (hk : len + 1 ≤ f + 1 + p) :
    (e6 = 0 ∧ la = 0 ∧ T = B o6 p6 ∧ len + 1 ≤ f + p6) ∨ (e6 = 0 ∧ la ≠ 0 ∧ T = .ok o6 p6) ∨ (∃ b, e6 = errOf b ∧ T = .bad b) := by
  cases R with
  | ok a q =>
    obtain ⟨rfl, rfl, rfl⟩ := ag
    simp only [Res.bind] at hT
    have := hmono _ _ rfl
    by_cases h0 : la = 0
    · rw [if_pos h0] at hT
      exact .inl ⟨rfl, h0, hT, by omega⟩
    · rw [if_neg h0] at hT
      exact .inr (.inl ⟨rfl, h0, hT⟩)
  | bad b => exact .inr (.inr ⟨b, ag, hT⟩)
end Go.Proofs.YthmcdohndckniaaGreatDoor
namespace Go.Proofs.YthmcdohndckniaaGreatDoor
set_option linter.unusedVariables false

def Grows (n : Nat) (R : Res (List Int)) : Prop := ∀ a p, R = .ok a p → n ≤ a.length
/-- R is read where more may be, S where m may be. -/
def Lim (m : Nat) (R S : Res (List Int)) : Prop := ∀ a p, R = .ok a p → (a.length ≤ m → S = .ok a p) ∧ (m < a.length → S = .bad true)
theorem Grows.bind {n : Nat} {R : Res (List Int)} {G : List Int → Nat → Res (List Int)} (h : Grows n R) (hg : ∀ a p, Grows a.length (G a p)) : Grows n (R.bind G) := fun b q hb => by
  obtain ⟨a, p, h1, h2⟩ := bind_ok hb
  exact Nat.le_trans (h a p h1) (hg a p b q h2)
theorem grows_any {α : Type} {n : Nat} {R : Res α} {G : α → Nat → Res (List Int)} (hg : ∀ a p, Grows n (G a p)) : Grows n (R.bind G) := fun b q hb => by
  obtain ⟨a, p, h1, h2⟩ := bind_ok hb
  exact hg a p b q h2
theorem lim_any {α : Type} {m : Nat} {R : Res α} {G H : α → Nat → Res (List Int)} (hg : ∀ a p, Lim m (G a p) (H a p)) : Lim m (R.bind G) (R.bind H) := fun b q hb => by
  obtain ⟨a, p, h1, h2⟩ := bind_ok hb
  subst h1
  exact hg a p b q h2
theorem Lim.bind {m : Nat} {R S : Res (List Int)} {G H : List Int → Nat → Res (List Int)} (h : Lim m R S) (hl : ∀ a p, Grows a.length (G a p)) (hg : ∀ a p, a.length ≤ m → Lim m (G a p) (H a p)) : Lim m (R.bind G) (S.bind H) := fun b q hb => by
  obtain ⟨a, p, h1, h2⟩ := bind_ok hb
  obtain ⟨k1, k2⟩ := h a p h1
  have hgr := hl a p b q h2
  by_cases ha : a.length ≤ m
  · rw [k1 ha]
    exact hg a p ha b q h2
  · rw [k2 (by omega)]
    exact ⟨fun hb => by omega, fun _ => rfl⟩
theorem lim_bad (m : Nat) (b : Bool) (S : Res (List Int)) : Lim m (.bad b) S := fun a p h => by cases h
theorem grows_bad (n : Nat) (b : Bool) : Grows n (.bad b) := fun a p h => by cases h
theorem grows_ok {n : Nat} {a : List Int} (h : n ≤ a.length) (p : Nat) : Grows n (.ok a p) := fun b q hb => by
  injection hb with h1 h2
  subst h1
  exact h
theorem lim_ok {m : Nat} {a : List Int} (p : Nat) (h : a.length ≤ m) : Lim m (.ok a p) (.ok a p) := fun b q hb => by
  injection hb with h1 h2
  subst h1; subst h2
  exact ⟨fun _ => rfl, fun hm => by omega⟩
theorem copyR_length (out : List Int) (far : Nat) : ∀ n, (copyR out far n).length = out.length + n
  | 0 => rfl
  | n + 1 => by rw [copyR, List.length_append, copyR_length out far n]; rfl
/-- A row of just so many bytes more, where they may be. -/
theorem lim_test {M m k : Nat} {a : List Int} (p : Nat) (hk : a.length = k) : Lim m (if M < k then .bad true else .ok a p) (if m < k then .bad true else .ok a p) := by
  intro b q hb
  split at hb
  · cases hb
  · injection hb with h1 h2
    subst h1; subst h2
    rw [hk]
    refine ⟨fun h => if_neg (by omega), fun h => if_pos h⟩
theorem grows_test {M n k : Nat} {a : List Int} (p : Nat) (h : n ≤ a.length) : Grows n (if M < k then .bad true else .ok a p) := by
  intro b q hb
  split at hb
  · cases hb
  · injection hb with h1 h2
    subst h1
    exact h

theorem bytesR_length (bt : List Int) (p n : Nat) : (bytesR bt p n).length = n := by simp [bytesR]
theorem storedR_grows (bt : List Int) (M : Nat) (out : List Int) (p : Nat) : Grows out.length (storedR bt M out p) := by
  unfold storedR
  refine grows_any fun n p => grows_any fun m2 p => ?_
  split
  · exact grows_bad _ _
  · exact grows_test _ (by rw [List.length_append]; omega)
theorem storedR_lim (bt : List Int) (M m : Nat) (out : List Int) (p : Nat) : Lim m (storedR bt M out p) (storedR bt m out p) := by
  unfold storedR
  refine lim_any fun n p => lim_any fun m2 p => ?_
  split
  · exact lim_bad _ _ _
  · exact lim_test _ (by rw [List.length_append, bytesR_length])
theorem matchR_grows (bt : List Int) (M : Nat) (ds out : List Int) (v p : Nat) : Grows out.length (matchR bt M ds out v p) := by
  unfold matchR
  split
  · exact grows_bad _ _
  refine grows_any fun n p => grows_any fun k p => ?_
  split
  · exact grows_bad _ _
  refine grows_any fun y p => ?_
  split
  · exact grows_bad _ _
  · exact grows_test _ (by rw [copyR_length]; omega)
theorem matchR_lim (bt : List Int) (M m : Nat) (ds out : List Int) (v p : Nat) : Lim m (matchR bt M ds out v p) (matchR bt m ds out v p) := by
  unfold matchR
  split
  · exact lim_bad _ _ _
  refine lim_any fun n p => lim_any fun k p => ?_
  split
  · exact lim_bad _ _ _
  refine lim_any fun y p => ?_
  split
  · exact lim_bad _ _ _
  · exact lim_test _ (copyR_length _ _ _)
theorem symsR_grows (bt : List Int) (M : Nat) (zs ds : List Int) : ∀ (f : Nat) (out : List Int) (p : Nat), Grows out.length (symsR bt M zs ds f out p)
  | 0, _, _ => grows_bad _ _
  | f + 1, out, p => by
    rw [symsR]
    refine grows_any fun s p => ?_
    split
    · exact grows_ok (Nat.le_refl _) _
    split
    · exact (matchR_grows bt M ds out (s - 257) p).bind fun a p => symsR_grows bt M zs ds f a p
    split
    · exact grows_bad _ _
    · intro b q hb
      have := symsR_grows bt M zs ds f _ _ b q hb
      rw [List.length_append] at this
      omega
theorem symsR_lim (bt : List Int) (M m : Nat) (zs ds : List Int) : ∀ (f : Nat) (out : List Int) (p : Nat), out.length ≤ m → Lim m (symsR bt M zs ds f out p) (symsR bt m zs ds f out p)
  | 0, _, _, _ => lim_bad _ _ _
  | f + 1, out, p, ho => by
    rw [symsR, symsR]
    refine lim_any fun s p => ?_
    split
    · exact lim_ok _ ho
    split
    · exact (matchR_lim bt M m ds out (s - 257) p).bind (fun a p => symsR_grows bt M zs ds f a p) (fun a p ha => symsR_lim bt M m zs ds f a p ha)
    split
    · exact lim_bad _ _ _
    · intro b q hb
      by_cases hm : m < out.length + 1
      · rw [if_pos hm]
        have := symsR_grows bt M zs ds f _ _ b q hb
        rw [List.length_append] at this
        simp only [List.length_cons, List.length_nil] at this
        exact ⟨fun h => by omega, fun _ => rfl⟩
      · rw [if_neg hm]
        exact symsR_lim bt M m zs ds f _ _ (by rw [List.length_append]; simp only [List.length_cons, List.length_nil]; omega) b q hb
theorem codedR_grows (bt : List Int) (M : Nat) (zs ds out : List Int) (p : Nat) : Grows out.length (codedR bt M zs ds out p) := by
  unfold codedR
  split
  · exact symsR_grows _ _ _ _ _ _ _
  · exact grows_bad _ _
theorem codedR_lim (bt : List Int) (M m : Nat) (zs ds out : List Int) (p : Nat) (ho : out.length ≤ m) : Lim m (codedR bt M zs ds out p) (codedR bt m zs ds out p) := by
  unfold codedR
  split
  · exact symsR_lim _ _ _ _ _ _ _ _ ho
  · exact lim_bad _ _ _
theorem dynamicR_grows (bt : List Int) (M : Nat) (out : List Int) (p : Nat) : Grows out.length (dynamicR bt M out p) := by
  unfold dynamicR
  refine grows_any fun n p => grows_any fun m2 p => grows_any fun c p => ?_
  split
  · exact grows_bad _ _
  refine grows_any fun sh p => ?_
  split
  · refine grows_any fun all p => ?_
    split
    · exact grows_bad _ _
    · exact codedR_grows _ _ _ _ _ _
  · exact grows_bad _ _
theorem dynamicR_lim (bt : List Int) (M m : Nat) (out : List Int) (p : Nat) (ho : out.length ≤ m) : Lim m (dynamicR bt M out p) (dynamicR bt m out p) := by
  unfold dynamicR
  refine lim_any fun n p => lim_any fun m2 p => lim_any fun c p => ?_
  split
  · exact lim_bad _ _ _
  refine lim_any fun sh p => ?_
  split
  · refine lim_any fun all p => ?_
    split
    · exact lim_bad _ _ _
    · exact codedR_lim _ _ _ _ _ _ _ ho
  · exact lim_bad _ _ _
theorem blockR_grows (bt : List Int) (M kind : Nat) (out : List Int) (p : Nat) : Grows out.length (if kind = 0 then storedR bt M out p else if kind = 1 then codedR bt M fixedL fixedD out p else if kind = 2 then dynamicR bt M out p else .bad false) := by
  split
  · exact storedR_grows _ _ _ _
  split
  · exact codedR_grows _ _ _ _ _ _
  split
  · exact dynamicR_grows _ _ _ _
  · exact grows_bad _ _
theorem blockR_lim (bt : List Int) (M m kind : Nat) (out : List Int) (p : Nat) (ho : out.length ≤ m) : Lim m (if kind = 0 then storedR bt M out p else if kind = 1 then codedR bt M fixedL fixedD out p else if kind = 2 then dynamicR bt M out p else .bad false)
    (if kind = 0 then storedR bt m out p else if kind = 1 then codedR bt m fixedL fixedD out p else if kind = 2 then dynamicR bt m out p else .bad false) := by
  split
  · exact storedR_lim _ _ _ _ _
  split
  · exact codedR_lim _ _ _ _ _ _ _ ho
  split
  · exact dynamicR_lim _ _ _ _ _ ho
  · exact lim_bad _ _ _
theorem blocksR_grows (bt : List Int) (M : Nat) : ∀ (f : Nat) (out : List Int) (p : Nat), Grows out.length (blocksR bt M f out p)
  | 0, _, _ => grows_bad _ _
  | f + 1, out, p => by
    rw [blocksR]
    refine grows_any fun last p => grows_any fun kind p => ?_
    refine (blockR_grows bt M kind out p).bind fun a p => ?_
    split
    · exact blocksR_grows bt M f a p
    · exact grows_ok (Nat.le_refl _) _
theorem blocksR_lim (bt : List Int) (M m : Nat) : ∀ (f : Nat) (out : List Int) (p : Nat), out.length ≤ m → Lim m (blocksR bt M f out p) (blocksR bt m f out p)
  | 0, _, _, _ => lim_bad _ _ _
  | f + 1, out, p, ho => by
    rw [blocksR, blocksR]
    refine lim_any fun last p => lim_any fun kind p => ?_
    refine (blockR_lim bt M m kind out p ho).bind (fun a p => ?_) (fun a p ha => ?_)
    · split
      · exact blocksR_grows bt M f a p
      · exact grows_ok (Nat.le_refl _) _
    · split
      · exact blocksR_lim bt M m f a p ha
      · exact lim_ok _ ha
/-- A text is read whole if as many bytes may be, and refused as too long if fewer may. -/
theorem inflateR_lim {bt a : List Int} {M p : Nat} (h : inflateR bt M = .ok a p) : inflateR bt a.length = .ok a p ∧ ∀ m, m < a.length → inflateR bt m = .bad true :=
  ⟨(blocksR_lim bt M a.length _ [] 0 (Nat.zero_le _) a p h).1 (Nat.le_refl _), fun m hm => (blocksR_lim bt M m _ [] 0 (Nat.zero_le _) a p h).2 hm⟩
end Go.Proofs.YthmcdohndckniaaGreatDoor
namespace Go.Proofs.YthmcdohndckniaaGreatDoor
open Go.RowKit
set_option linter.unusedVariables false

def infOut (bs : List Int) (most : Int) : List Int × Int × Int :=
  if most < 0 ∨ 65536 < most then ([], 0, 2) else match inflateR (bitsOf bs) most.toNat with
    | .ok out p => (out, (((p + 7) / 8 : Nat) : Int), 0)
    | .bad b => ([], 0, errOf b)
theorem infOut_len (bs : List Int) (most : Int) : (infOut bs most).1.length ≤ 65536 := by
  unfold infOut
  split
  · simp
  · rename_i h
    split
    · rename_i out p ho
      rcases Nat.lt_or_ge 65536 out.length with h1 | h1
      · have := (inflateR_lim ho).2 most.toNat (by omega)
        rw [this] at ho
        cases ho
      · exact h1
    · simp
theorem InfPost.out {bs : List Int} {most : Int} {w : World} {ev : Ending} {w' : World} (h : InfPost bs most w ev w') :
    ∃ A c, ev = .returned (.tuple #[.slice A (infOut bs most).1.length c, .int .i64 (infOut bs most).2.1, .int .i64 (infOut bs most).2.2]) ∧ w'.ownsRow w.heap.size 5 1 (.slice A (infOut bs most).1.length c) (infOut bs most).1.length ((infOut bs most).1.map (Value.int .u8)) ∧ Bytes (infOut bs most).1 ∧ Below w.heap.size w w' := by
  obtain ⟨hb, h⟩ := h
  unfold infOut
  by_cases hm : most < 0 ∨ 65536 < most
  · rw [if_pos hm] at h
    rw [if_pos hm]
    exact ⟨none, 0, h, ⟨rfl, .inl ⟨rfl, rfl⟩⟩, (fun z hz => by cases hz), hb⟩
  · rw [if_neg hm] at h
    rw [if_neg hm]
    cases hR : inflateR (bitsOf bs) most.toNat with
    | ok out p =>
      rw [hR] at h
      obtain ⟨A, c, h1, h2, h3⟩ := h
      exact ⟨A, c, h1, h2, h3, hb⟩
    | bad b =>
      rw [hR] at h
      exact ⟨none, 0, h, ⟨rfl, .inl ⟨rfl, rfl⟩⟩, (fun z hz => by cases hz), hb⟩
/-- The beginning of a row. -/
theorem rd_prefix {k : IntKind} {w : World} {A : Option Addr} {n m : Nat} {zs ys : List Int} (h : RdI k w A (n + m) (zs ++ ys)) (hz : zs.length = n) : RdI k w A n zs := by
  refine ⟨hz, fun hn => ?_⟩
  obtain ⟨b, off, rfl, hlt, hc⟩ := h.2 (by omega)
  refine ⟨b, off, rfl, hlt, fun j hj => ?_⟩
  rw [hc j (by omega)]
  congr 2
  simp [List.getD, List.getElem?_append_left (show j < zs.length by omega)]
theorem rd_own_prefix {k : IntKind} {w : World} {base g n m c : Nat} {e : TypeId} {zs ys : List Int} (h : w.ownsRow base e 1 (.slice (some ⟨g, 0, none⟩) (n + m) c) (n + m) ((zs ++ ys).map (Value.int k))) (hz : zs.length = n) : RdI k w (some ⟨g, 0, none⟩) n zs :=
  rd_prefix (RdI.of_own h) hz
end Go.Proofs.YthmcdohndckniaaGreatDoor
namespace Go.Proofs.YthmcdohndckniaaGreatDoor
open Go.RowKit
theorem bytes_wf6 {l : List Int} (h : ∀ n ∈ l, (Lit.int .u8 n).wf = true) : Bytes l := by
  intro z hz
  have := h z hz
  simp only [Lit.wf, decide_eq_true_eq, Bool.and_eq_true] at this
  simp [IntKind.min, IntKind.max, IntKind.bits, IntKind.signed] at this
  omega
theorem len_max {n c : Nat} (h : n ≤ c) (h2 : c ≤ maxLen) : n ≤ 9223372036854775807 := by unfold maxLen at h2; omega
end Go.Proofs.YthmcdohndckniaaGreatDoor
