/-
  Plain: what is read moves on.
-/
import Derived.Test.YtacidmamfkfipaaDoorInfSpec
namespace Go.Proofs.YtacidmamfkfipaaDoor
set_option linter.unusedVariables false

theorem bind_ok {α β : Type} {r : Res α} {F : α → Nat → Res β} {a : β} {q : Nat} (h : r.bind F = .ok a q) : ∃ x p, r = .ok x p ∧ F x p = .ok a q := by
  cases r with
  | ok x p => exact ⟨x, p, rfl, h⟩
  | bad b => cases h
theorem symR_lt {bt zs : List Int} {p a q : Nat} (h : symR bt zs p = .ok a q) : p < q ∧ q ≤ bt.length := by
  by_cases hp : p ≤ bt.length
  · have := symR_ok hp h; exact ⟨this.1, this.2.1⟩
  · exfalso
    unfold symR at h
    split at h
    · rename_i s k hn
      obtain ⟨h3, h4, _⟩ := nextGo_ok _ _ _ _ hn
      rw [List.length_drop] at h4
      omega
    · cases h
theorem storedR_mono {bt out a : List Int} {most p q : Nat} (h : storedR bt most out p = .ok a q) : p ≤ q := by
  unfold storedR at h
  obtain ⟨n, p1, h1, h⟩ := bind_ok h
  obtain ⟨m, p2, h2, h⟩ := bind_ok h
  have e1 := (numR_ok h1).1
  have e2 := (numR_ok h2).1
  split at h
  · cases h
  split at h
  · cases h
  injection h with _ h
  unfold alignR at e1
  omega
theorem matchR_mn {bt ds out a : List Int} {most v p q : Nat} (h : matchR bt most ds out v p = .ok a q) : p ≤ q := by
  unfold matchR at h
  split at h
  · cases h
  obtain ⟨n, p1, h1, h⟩ := bind_ok h
  obtain ⟨k, p2, h2, h⟩ := bind_ok h
  have e1 := (numR_ok h1).1
  have e2 := (symR_lt h2).1
  split at h
  · cases h
  obtain ⟨y, p3, h3, h⟩ := bind_ok h
  have e3 := (numR_ok h3).1
  split at h
  · cases h
  split at h
  · cases h
  injection h with _ h
  omega
theorem symsR_mono {bt zs ds : List Int} {most : Nat} : ∀ (f : Nat) (out : List Int) (p : Nat) (a : List Int) (q : Nat), symsR bt most zs ds f out p = .ok a q → p ≤ q
  | 0, _, _, _, _, h => by cases h
  | f + 1, out, p, a, q, h => by
    rw [symsR] at h
    obtain ⟨s, p1, h1, h⟩ := bind_ok h
    have e1 := (symR_lt h1).1
    split at h
    · injection h with _ h; omega
    split at h
    · obtain ⟨o2, p2, h2, h⟩ := bind_ok h
      have e2 := matchR_mn h2
      have := symsR_mono f _ _ _ _ h
      omega
    split at h
    · cases h
    have := symsR_mono f _ _ _ _ h
    omega
theorem codedR_mono {bt zs ds out a : List Int} {most p q : Nat} (h : codedR bt most zs ds out p = .ok a q) : p ≤ q := by
  unfold codedR at h
  split at h
  · exact symsR_mono _ _ _ _ _ h
  · cases h
theorem lensR_mono {bt cs : List Int} {n : Nat} : ∀ (f : Nat) (acc : List Int) (p : Nat) (a : List Int) (q : Nat), lensR bt cs n f acc p = .ok a q → p ≤ q
  | 0, _, _, _, _, h => by cases h
  | f + 1, acc, p, a, q, h => by
    rw [lensR] at h
    split at h
    · injection h with _ h; omega
    obtain ⟨s, p1, h1, h⟩ := bind_ok h
    have e1 := (symR_lt h1).1
    obtain ⟨vk, p2, h2, h⟩ := bind_ok h
    have e2 : p1 ≤ p2 := by
      split at h2
      · split at h2
        · cases h2
        obtain ⟨x, p3, h3, h2⟩ := bind_ok h2
        have := (numR_ok h3).1
        injection h2 with _ h2; omega
      split at h2
      · obtain ⟨x, p3, h3, h2⟩ := bind_ok h2
        have := (numR_ok h3).1
        injection h2 with _ h2; omega
      split at h2
      · obtain ⟨x, p3, h3, h2⟩ := bind_ok h2
        have := (numR_ok h3).1
        injection h2 with _ h2; omega
      injection h2 with _ h2; omega
    split at h
    · cases h
    have := lensR_mono f _ _ _ _ h
    omega
theorem shortsR_mono {bt : List Int} : ∀ (c p : Nat) (a : List Int) (q : Nat), shortsR bt c p = .ok a q → p ≤ q
  | 0, _, _, _, h => by injection h with _ h; omega
  | c + 1, p, a, q, h => by
    rw [shortsR] at h
    obtain ⟨s, p1, h1, h⟩ := bind_ok h
    have e1 := shortsR_mono c _ _ _ h1
    obtain ⟨x, p2, h2, h⟩ := bind_ok h
    have := (numR_ok h2).1
    injection h with _ h; omega
theorem dynamicR_mono {bt out a : List Int} {most p q : Nat} (h : dynamicR bt most out p = .ok a q) : p ≤ q := by
  unfold dynamicR at h
  obtain ⟨n, p1, h1, h⟩ := bind_ok h
  obtain ⟨m, p2, h2, h⟩ := bind_ok h
  obtain ⟨c, p3, h3, h⟩ := bind_ok h
  have e1 := (numR_ok h1).1
  have e2 := (numR_ok h2).1
  have e3 := (numR_ok h3).1
  split at h
  · cases h
  obtain ⟨sh, p4, h4, h⟩ := bind_ok h
  have e4 := shortsR_mono _ _ _ _ h4
  split at h
  · obtain ⟨all, p5, h5, h⟩ := bind_ok h
    have e5 := lensR_mono _ _ _ _ _ h5
    split at h
    · cases h
    have := codedR_mono h
    omega
  · cases h
end Go.Proofs.YtacidmamfkfipaaDoor
