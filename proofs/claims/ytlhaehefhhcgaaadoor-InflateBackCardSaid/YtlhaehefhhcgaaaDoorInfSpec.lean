/-
  What a stream says, in plain words, over its bits.
  Plain: what is read moves on.
-/
import Derived.Test.YtlhaehefhhcgaaaDoorBitsPlain
namespace Go.Proofs.YtlhaehefhhcgaaaDoor
set_option linter.unusedVariables false

/-- An answer and where one stands then; or an error (true: too long). -/
inductive Res (α : Type) where
  | ok (a : α) (p : Nat)
  | bad (long : Bool)
def Res.bind {α β : Type} : Res α → (α → Nat → Res β) → Res β
  | .ok a p, f => f a p
  | .bad b, _ => .bad b
def errOf (long : Bool) : Int := if long then 3 else 4

def numR (bt : List Int) (p n : Nat) : Res Nat := if p + n ≤ bt.length then .ok (numOf ((bt.drop p).take n)) (p + n) else .bad false
def symR (bt zs : List Int) (p : Nat) : Res Nat := match nextOf zs (bt.drop p) with
  | (some s, k) => .ok s.toNat (p + k)
  | (none, _) => .bad false
def alignR (p : Nat) : Nat := (p + 7) / 8 * 8
def bytesR (bt : List Int) (p n : Nat) : List Int := (List.range n).map fun i => (numOf ((bt.drop (p + 8 * i)).take 8) : Int)
def storedR (bt : List Int) (most : Nat) (out : List Int) (p : Nat) : Res (List Int) :=
  (numR bt (alignR p) 16).bind fun n p => (numR bt p 16).bind fun m p =>
    if n + m ≠ 65535 ∨ bt.length < p + 8 * n then .bad false else if most < out.length + n then .bad true else .ok (out ++ bytesR bt p n) (p + 8 * n)

def lbases : List Int := [3, 4, 5, 6, 7, 8, 9, 10, 11, 13, 15, 17, 19, 23, 27, 31, 35, 43, 51, 59, 67, 83, 99, 115, 131, 163, 195, 227, 258]
def lbits : List Int := [0, 0, 0, 0, 0, 0, 0, 0, 1, 1, 1, 1, 2, 2, 2, 2, 3, 3, 3, 3, 4, 4, 4, 4, 5, 5, 5, 5, 0]
def dbases : List Int := [1, 2, 3, 4, 5, 7, 9, 13, 17, 25, 33, 49, 65, 97, 129, 193, 257, 385, 513, 769, 1025, 1537, 2049, 3073, 4097, 6145, 8193, 12289, 16385, 24577]
def dbits : List Int := [0, 0, 0, 0, 1, 1, 2, 2, 3, 3, 4, 4, 5, 5, 6, 6, 7, 7, 8, 8, 9, 9, 10, 10, 11, 11, 12, 12, 13, 13]
def orderL : List Int := [16, 17, 18, 0, 8, 7, 9, 6, 10, 5, 11, 4, 12, 3, 13, 2, 14, 1, 15]

/-- So many bytes more, each the one that stands so far back. -/
def copyR (out : List Int) (far : Nat) : Nat → List Int
  | 0 => out
  | n + 1 => copyR out far n ++ [(copyR out far n).getD ((copyR out far n).length - far) 0]
def matchR (bt : List Int) (most : Nat) (ds out : List Int) (v p : Nat) : Res (List Int) :=
  if 29 ≤ v then .bad false else
  (numR bt p (lbits.getD v 0).toNat).bind fun x p => (symR bt ds p).bind fun k p =>
    if 30 ≤ k then .bad false else
    (numR bt p (dbits.getD k 0).toNat).bind fun y p =>
      if out.length < (dbases.getD k 0).toNat + y then .bad false else
      if most < out.length + ((lbases.getD v 0).toNat + x) then .bad true else
      .ok (copyR out ((dbases.getD k 0).toNat + y) ((lbases.getD v 0).toNat + x)) p
def symsR (bt : List Int) (most : Nat) (zs ds : List Int) : Nat → List Int → Nat → Res (List Int)
  | 0, _, _ => .bad false
  | f + 1, out, p => (symR bt zs p).bind fun s p =>
    if s = 256 then .ok out p else
    if 256 < s then (matchR bt most ds out (s - 257) p).bind fun out p => symsR bt most zs ds f out p else
    if most < out.length + 1 then .bad true else symsR bt most zs ds f (out ++ [(s : Int)]) p
def codedR (bt : List Int) (most : Nat) (zs ds out : List Int) (p : Nat) : Res (List Int) :=
  if countsOk zs = true ∧ countsOk ds = true then symsR bt most zs ds (bt.length + 1) out p else .bad false
def lensR (bt cs : List Int) (n : Nat) : Nat → List Int → Nat → Res (List Int)
  | 0, _, _ => .bad false
  | f + 1, acc, p =>
    if n ≤ acc.length then .ok acc p else
    (symR bt cs p).bind fun s p =>
      (if s = 16 then (if acc.length = 0 then .bad false else (numR bt p 2).bind fun x p => .ok (acc.getD (acc.length - 1) 0, 3 + x) p)
       else if s = 17 then (numR bt p 3).bind fun x p => .ok (0, 3 + x) p
       else if s = 18 then (numR bt p 7).bind fun x p => .ok (0, 11 + x) p
       else .ok ((s : Int), 1) p : Res (Int × Nat)).bind fun vk p =>
        if n < acc.length + vk.2 then .bad false else lensR bt cs n f (acc ++ List.replicate vk.2 vk.1) p
/-- The short lengths: c of them, three bits each, in their order. -/
def shortsR (bt : List Int) : Nat → Nat → Res (List Int)
  | 0, p => .ok (List.replicate 19 0) p
  | c + 1, p => (shortsR bt c p).bind fun sh p => (numR bt p 3).bind fun x p => .ok (sh.set (orderL.getD c 0).toNat (x : Int)) p
def dynamicR (bt : List Int) (most : Nat) (out : List Int) (p : Nat) : Res (List Int) :=
  (numR bt p 5).bind fun n p => (numR bt p 5).bind fun m p => (numR bt p 4).bind fun c p =>
    if 286 < 257 + n ∨ 30 < 1 + m then .bad false else
    (shortsR bt (4 + c) p).bind fun sh p =>
      if countsOk sh = true then
        (lensR bt sh (257 + n + (1 + m)) (bt.length + 1) [] p).bind fun all p =>
          if all.getD 256 0 = 0 then .bad false else codedR bt most (all.take (257 + n)) (all.drop (257 + n)) out p
      else .bad false
def fixedL : List Int := List.replicate 144 8 ++ List.replicate 112 9 ++ List.replicate 24 7 ++ List.replicate 8 8
def fixedD : List Int := List.replicate 32 5
def blocksR (bt : List Int) (most : Nat) : Nat → List Int → Nat → Res (List Int)
  | 0, _, _ => .bad false
  | f + 1, out, p => (numR bt p 1).bind fun last p => (numR bt p 2).bind fun kind p =>
    ((if kind = 0 then storedR bt most out p else if kind = 1 then codedR bt most fixedL fixedD out p else if kind = 2 then dynamicR bt most out p else .bad false : Res (List Int))).bind fun out p =>
      if last = 0 then blocksR bt most f out p else .ok out p
def inflateR (bt : List Int) (most : Nat) : Res (List Int) := blocksR bt most (bt.length + 1) [] 0

/-! ### What is read moves on -/
theorem numR_ok {bt : List Int} {p n a q : Nat} (h : numR bt p n = .ok a q) : q = p + n ∧ p + n ≤ bt.length ∧ a = numOf ((bt.drop p).take n) := by
  unfold numR at h
  split at h
  · rename_i hle
    injection h with h1 h2
    exact ⟨h2.symm, hle, h1.symm⟩
  · cases h
theorem numR_lt {bt : List Int} (h01 : Bit01 bt) {p n a q : Nat} (h : numR bt p n = .ok a q) : a < 2 ^ n := by
  obtain ⟨_, h2, rfl⟩ := numR_ok h
  have := numOf_lt (a := (bt.drop p).take n) (fun x hx => h01 x (List.mem_of_mem_drop (List.mem_of_mem_take hx)))
  rw [List.length_take, List.length_drop, Nat.min_eq_left (by omega)] at this
  exact this
theorem nextGo_ok {zs bt : List Int} : ∀ (f l : Nat) (s : Int) (k : Nat), nextGo zs bt f l = (some s, k) → l < k ∧ k ≤ bt.length ∧ s = symAt zs bt k ∧ hit zs bt k = true
  | 0, l, s, k, h => by simp [nextGo] at h
  | f + 1, l, s, k, h => by
    simp only [nextGo] at h
    split at h
    · split at h
      · rename_i h1 h2
        simp only [Prod.mk.injEq, Option.some.injEq] at h
        obtain ⟨rfl, rfl⟩ := h
        exact ⟨by omega, by omega, rfl, h2⟩
      · have := nextGo_ok f (l + 1) s k h
        exact ⟨by omega, this.2⟩
    · simp at h
theorem symR_ok {bt zs : List Int} {p a q : Nat} (hp : p ≤ bt.length) (h : symR bt zs p = .ok a q) : p < q ∧ q ≤ bt.length ∧ a < zs.length := by
  unfold symR at h
  split at h
  · rename_i s k hn
    injection h with h1 h2
    obtain ⟨h3, h4, h5, h6⟩ := nextGo_ok _ _ _ _ hn
    rw [List.length_drop] at h4
    have hf := find_hit zs (bt.drop p) k (by omega)
    rw [if_pos h6] at hf
    have hlt : (symAt zs (bt.drop p) k).toNat < zs.length := by
      have := List.mem_of_find?_eq_some hf
      simpa using this
    subst h1
    rw [h5]
    exact ⟨by omega, by omega, hlt⟩
  · cases h
end Go.Proofs.YtlhaehefhhcgaaaDoor
namespace Go.Proofs.YtlhaehefhhcgaaaDoor
set_option linter.unusedVariables false

theorem bind_ok {α β : Type} {r : Res α} {F : α → Nat → Res β} {a : β} {q : Nat} (h : r.bind F = .ok a q) : ∃ x p, r = .ok x p ∧ F x p = .ok a q := by
  cases r with
  | ok x p => exact ⟨x, p, rfl, h⟩
  | bad b => cases h
theorem symR_lt {bt zs : List Int} {p a q : Nat} (h : symR bt zs p = .ok a q) : p < q ∧ q ≤ bt.length := by
  by_cases hp : p ≤ bt.length
  · have := symR_ok hp h; exact ⟨this.1, this.2.1⟩
  · exfalso
    unfold symR at h
    split at h
    · rename_i s k hn
      obtain ⟨h3, h4, _⟩ := nextGo_ok _ _ _ _ hn
      rw [List.length_drop] at h4
      omega
    · cases h
theorem storedR_mono {bt out a : List Int} {most p q : Nat} (h : storedR bt most out p = .ok a q) : p ≤ q := by
  unfold storedR at h
  obtain ⟨n, p1, h1, h⟩ := bind_ok h
  obtain ⟨m, p2, h2, h⟩ := bind_ok h
  have e1 := (numR_ok h1).1
  have e2 := (numR_ok h2).1
  split at h
  · cases h
  split at h
  · cases h
  injection h with _ h
  unfold alignR at e1
  omega
theorem matchR_mn {bt ds out a : List Int} {most v p q : Nat} (h : matchR bt most ds out v p = .ok a q) : p ≤ q := by
  unfold matchR at h
  split at h
  · cases h
  obtain ⟨n, p1, h1, h⟩ := bind_ok h
  obtain ⟨k, p2, h2, h⟩ := bind_ok h
  have e1 := (numR_ok h1).1
  have e2 := (symR_lt h2).1
  split at h
  · cases h
  obtain ⟨y, p3, h3, h⟩ := bind_ok h
  have e3 := (numR_ok h3).1
  split at h
  · cases h
  split at h
  · cases h
  injection h with _ h
  omega
theorem symsR_mono {bt zs ds : List Int} {most : Nat} : ∀ (f : Nat) (out : List Int) (p : Nat) (a : List Int) (q : Nat), symsR bt most zs ds f out p = .ok a q → p ≤ q
  | 0, _, _, _, _, h => by cases h
  | f + 1, out, p, a, q, h => by
    rw [symsR] at h
    obtain ⟨s, p1, h1, h⟩ := bind_ok h
    have e1 := (symR_lt h1).1
    split at h
    · injection h with _ h; omega
    split at h
    · obtain ⟨o2, p2, h2, h⟩ := bind_ok h
      have e2 := matchR_mn h2
      have := symsR_mono f _ _ _ _ h
      omega
    split at h
    · cases h
    have := symsR_mono f _ _ _ _ h
    omega
theorem codedR_mono {bt zs ds out a : List Int} {most p q : Nat} (h : codedR bt most zs ds out p = .ok a q) : p ≤ q := by
  unfold codedR at h
  split at h
  · exact symsR_mono _ _ _ _ _ h
  · cases h
theorem lensR_mono {bt cs : List Int} {n : Nat} : ∀ (f : Nat) (acc : List Int) (p : Nat) (a : List Int) (q : Nat), lensR bt cs n f acc p = .ok a q → p ≤ q
  | 0, _, _, _, _, h => by cases h
  | f + 1, acc, p, a, q, h => by
    rw [lensR] at h
    split at h
    · injection h with _ h; omega
    obtain ⟨s, p1, h1, h⟩ := bind_ok h
    have e1 := (symR_lt h1).1
    obtain ⟨vk, p2, h2, h⟩ := bind_ok h
    have e2 : p1 ≤ p2 := by
      split at h2
      · split at h2
        · cases h2
        obtain ⟨x, p3, h3, h2⟩ := bind_ok h2
        have := (numR_ok h3).1
        injection h2 with _ h2; omega
      split at h2
      · obtain ⟨x, p3, h3, h2⟩ := bind_ok h2
        have := (numR_ok h3).1
        injection h2 with _ h2; omega
      split at h2
      · obtain ⟨x, p3, h3, h2⟩ := bind_ok h2
        have := (numR_ok h3).1
        injection h2 with _ h2; omega
      injection h2 with _ h2; omega
    split at h
    · cases h
    have := lensR_mono f _ _ _ _ h
    omega
theorem shortsR_mono {bt : List Int} : ∀ (c p : Nat) (a : List Int) (q : Nat), shortsR bt c p = .ok a q → p ≤ q
  | 0, _, _, _, h => by injection h with _ h; omega
  | c + 1, p, a, q, h => by
    rw [shortsR] at h
    obtain ⟨s, p1, h1, h⟩ := bind_ok h
    have e1 := shortsR_mono c _ _ _ h1
    obtain ⟨x, p2, h2, h⟩ := bind_ok h
    have := (numR_ok h2).1
    injection h with _ h; omega
theorem dynamicR_mono {bt out a : List Int} {most p q : Nat} (h : dynamicR bt most out p = .ok a q) : p ≤ q := by
  unfold dynamicR at h
  obtain ⟨n, p1, h1, h⟩ := bind_ok h
  obtain ⟨m, p2, h2, h⟩ := bind_ok h
  obtain ⟨c, p3, h3, h⟩ := bind_ok h
  have e1 := (numR_ok h1).1
  have e2 := (numR_ok h2).1
  have e3 := (numR_ok h3).1
  split at h
  · cases h
  obtain ⟨sh, p4, h4, h⟩ := bind_ok h
  have e4 := shortsR_mono _ _ _ _ h4
  split at h
  · obtain ⟨all, p5, h5, h⟩ := bind_ok h
    have e5 := lensR_mono _ _ _ _ _ h5
    split at h
    · cases h
    have := codedR_mono h
    omega
  · cases h
end Go.Proofs.YtlhaehefhhcgaaaDoor
