/-
  Plain: pieces, what they say, their bits; a stream of them is read as what they say.
  Plain: the heads of blocks: lengths told in parts, short lengths, bytes as they are.
  Plain: bytes as pieces that look back: what lz.Parse makes; that they say the bytes.
  Plain: streams of one block, and of bytes as they are.
  Plain: a block by codes of its own, as deflate makes it: weights, lengths without the noughts behind, lengths in parts.
  Plain: bits as bytes.
  Plain: equal bytes become few.
  Plain: what stands behind a stream that is read plays no part; so a stream that is cut off is not read.
  Plain: deflate's block by codes of its own says what its pieces say; the shortest of three.
  Plain: what Deflate hands back is read as the bytes, whatever stands behind; cut off it is not.
  Plain: what lz.Parse keeps while it goes: where three bytes stood last, and where they stood ahead of that.
  Plain: weights counted piece by piece; short lengths in their order.
-/
import Derived.Test.YtlhaehefhhcgaaaDoorInfSpec
import Derived.Test.YtlhaehefhhcgaaaDoorLenOk
import Derived.Maps.OwnSet
namespace Go.Proofs.YtlhaehefhhcgaaaDoor
set_option linter.unusedVariables false

/-- A byte, or so many bytes from so far back. -/
structure Pc where
  b : Nat
  n : Nat
  d : Nat
def Pc.Ok (out : List Int) (p : Pc) : Prop := (p.n = 0 ∧ p.d = 0 ∧ p.b < 256) ∨ (p.b = 0 ∧ 3 ≤ p.n ∧ p.n ≤ 258 ∧ 1 ≤ p.d ∧ p.d ≤ 32768 ∧ p.d ≤ out.length)
def say1 (out : List Int) (p : Pc) : List Int := if p.n = 0 then out ++ [(p.b : Int)] else copyR out p.d p.n
def sayAll (out : List Int) (l : List Pc) : List Int := l.foldl say1 out
def OkAll : List Int → List Pc → Prop
  | _, [] => True
  | out, p :: l => p.Ok out ∧ OkAll (say1 out p) l
/-- The last place up to m whose number is at most n. -/
def lastLe (T : List Int) (n : Nat) : Nat → Nat
  | 0 => 0
  | k + 1 => if T.getD (k + 1) 0 ≤ (n : Int) then k + 1 else lastLe T n k
theorem lastLe_le (T : List Int) (n : Nat) : ∀ m, lastLe T n m ≤ m
  | 0 => Nat.le_refl _
  | k + 1 => by
    unfold lastLe
    split
    · exact Nat.le_refl _
    · have := lastLe_le T n k; omega
theorem lastLe_is {T : List Int} {n : Nat} (h0 : T.getD 0 0 ≤ (n : Int)) : ∀ m, T.getD (lastLe T n m) 0 ≤ (n : Int)
  | 0 => h0
  | k + 1 => by
    unfold lastLe
    split
    · assumption
    · exact lastLe_is h0 k
theorem lastLe_above {T : List Int} {n : Nat} : ∀ m j, lastLe T n m < j → j ≤ m → (n : Int) < T.getD j 0
  | 0, j, h1, h2 => by simp [lastLe] at h1; omega
  | k + 1, j, h1, h2 => by
    unfold lastLe at h1
    split at h1
    · omega
    · rename_i h3
      by_cases hj : j = k + 1
      · subst hj; omega
      · exact lastLe_above k j h1 (by omega)
def lenK (n : Nat) : Nat := lastLe lbases n 28
def distK (d : Nat) : Nat := lastLe dbases d 29
theorem lenK_le (n : Nat) : lenK n ≤ 28 := lastLe_le _ _ _
theorem distK_le (d : Nat) : distK d ≤ 29 := lastLe_le _ _ _
theorem lb_step : ∀ k, k < 28 → lbases.getD (k + 1) 0 ≤ lbases.getD k 0 + 2 ^ (lbits.getD k 0).toNat := by decide
theorem db_step : ∀ k, k < 29 → dbases.getD (k + 1) 0 ≤ dbases.getD k 0 + 2 ^ (dbits.getD k 0).toNat := by decide
theorem lb_pos : ∀ k, k < 29 → 3 ≤ lbases.getD k 0 ∧ lbases.getD k 0 ≤ 258 := by decide
theorem db_pos : ∀ k, k < 30 → 1 ≤ dbases.getD k 0 ∧ dbases.getD k 0 ≤ 24577 := by decide
theorem lenK_spec {n : Nat} (h3 : 3 ≤ n) (h258 : n ≤ 258) : (lbases.getD (lenK n) 0).toNat ≤ n ∧ n - (lbases.getD (lenK n) 0).toNat < 2 ^ (lbits.getD (lenK n) 0).toNat := by
  have h1 : lbases.getD (lenK n) 0 ≤ (n : Int) := lastLe_is (T := lbases) (by show (3 : Int) ≤ n; omega) 28
  have h2 := lb_pos (lenK n) (by have := lenK_le n; omega)
  refine ⟨by omega, ?_⟩
  by_cases hk : lenK n = 28
  · rw [hk] at h1 ⊢
    have e1 : (lbases.getD 28 0).toNat = 258 := rfl
    have e2 : (lbits.getD 28 0).toNat = 0 := rfl
    rw [e1, e2]
    omega
  · have hle := lenK_le n
    have h4 : (n : Int) < lbases.getD (lenK n + 1) 0 := lastLe_above 28 _ (by show lenK n < lenK n + 1; omega) (by omega)
    have h5 := lb_step (lenK n) (by omega)
    have e : ((2 ^ (lbits.getD (lenK n) 0).toNat : Nat) : Int) = 2 ^ (lbits.getD (lenK n) 0).toNat := by simp
    omega
theorem distK_spec {d : Nat} (h1 : 1 ≤ d) (h2 : d ≤ 32768) : (dbases.getD (distK d) 0).toNat ≤ d ∧ d - (dbases.getD (distK d) 0).toNat < 2 ^ (dbits.getD (distK d) 0).toNat := by
  have h1 : dbases.getD (distK d) 0 ≤ (d : Int) := lastLe_is (T := dbases) (by show (1 : Int) ≤ d; omega) 29
  have h3 := db_pos (distK d) (by have := distK_le d; omega)
  refine ⟨by omega, ?_⟩
  by_cases hk : distK d = 29
  · rw [hk] at h1 ⊢
    have e1 : (dbases.getD 29 0).toNat = 24577 := rfl
    have e2 : (dbits.getD 29 0).toNat = 13 := rfl
    rw [e1, e2]
    omega
  · have hle := distK_le d
    have h4 : (d : Int) < dbases.getD (distK d + 1) 0 := lastLe_above 29 _ (by show distK d < distK d + 1; omega) (by omega)
    have h5 := db_step (distK d) (by omega)
    have e : ((2 ^ (dbits.getD (distK d) 0).toNat : Nat) : Int) = 2 ^ (dbits.getD (distK d) 0).toNat := by simp
    omega
/-- A symbol's bits; a piece's; a row of pieces with the end behind them. -/
def litB (zs : List Int) (s : Nat) : List Int := codeBits (codeAt zs s).toNat (zs.getD s 0).toNat
def pcB (zs ds : List Int) (p : Pc) : List Int :=
  if p.n = 0 then litB zs p.b else
    litB zs (257 + lenK p.n) ++ (bitsL (p.n - (lbases.getD (lenK p.n) 0).toNat) (lbits.getD (lenK p.n) 0).toNat ++ (litB ds (distK p.d) ++ bitsL (p.d - (dbases.getD (distK p.d) 0).toNat) (dbits.getD (distK p.d) 0).toNat))
def pcsB (zs ds : List Int) (l : List Pc) : List Int := l.flatMap (pcB zs ds) ++ litB zs 256
/-- It has a code. -/
def HasC (zs : List Int) (s : Nat) : Prop := s < zs.length ∧ 0 < zs.getD s 0
def HasP (zs ds : List Int) (p : Pc) : Prop := if p.n = 0 then HasC zs p.b else HasC zs (257 + lenK p.n) ∧ HasC ds (distK p.d)
/-- X stands in bt at p. -/
def At (bt : List Int) (p : Nat) (X : List Int) : Prop := p ≤ bt.length ∧ ∃ r, bt.drop p = X ++ r
theorem At.left {bt X Y : List Int} {p : Nat} (h : At bt p (X ++ Y)) : At bt p X := by
  obtain ⟨h1, r, h2⟩ := h
  exact ⟨h1, Y ++ r, by rw [h2, List.append_assoc]⟩
theorem At.len {bt X : List Int} {p : Nat} (h : At bt p X) : p + X.length ≤ bt.length := by
  obtain ⟨h1, r, h2⟩ := h
  have := congrArg List.length h2
  rw [List.length_drop, List.length_append] at this
  omega
theorem At.right {bt X Y : List Int} {p : Nat} (h : At bt p (X ++ Y)) : At bt (p + X.length) Y := by
  have hl := h.left.len
  obtain ⟨h1, r, h2⟩ := h
  refine ⟨hl, r, ?_⟩
  rw [← List.drop_drop, h2, List.append_assoc, List.drop_left]
theorem numR_at {bt : List Int} {p v n : Nat} (h : At bt p (bitsL v n)) : numR bt p n = .ok (v % 2 ^ n) (p + n) := by
  have hl := h.len
  rw [bitsL_len] at hl
  obtain ⟨_, r, h2⟩ := h
  unfold numR
  rw [if_pos hl, h2, List.take_left' (bitsL_len n v), bitsL_num]
theorem len15 {zs : List Int} (hok : countsOk zs = true) {s : Nat} (hs : s < zs.length) : zs.getD s 0 ≤ 15 := by
  simp only [countsOk, Bool.and_eq_true] at hok
  have h1 : zs.all okLen = true := hok.1.1.2
  have h2 := List.all_eq_true.1 h1 (zs.getD s 0) (by simp [hs])
  simp only [okLen, Bool.and_eq_true, decide_eq_true_eq] at h2
  omega
theorem symR_at {bt zs : List Int} {p s : Nat} (hok : countsOk zs = true) (hc : HasC zs s) (h : At bt p (litB zs s)) : symR bt zs p = .ok s (p + (litB zs s).length) := by
  obtain ⟨_, r, h2⟩ := h
  have h15 := len15 hok hc.1
  have hpos := hc.2
  have hz : zs.getD s 0 = ((zs.getD s 0).toNat : Int) := by omega
  have hn := next_code hok hc.1 (n := (zs.getD s 0).toNat) (by omega) (by omega) hz r
  unfold symR
  rw [h2]
  unfold litB
  rw [hn, codeBits_len]
  simp
theorem matchR_at {bt ds out : List Int} {most p : Nat} {q : Pc} (hok : countsOk ds = true) (hq : q.n ≠ 0) (ho : q.Ok out) (hc : HasC ds (distK q.d)) (hm : out.length + q.n ≤ most)
    (h : At bt p (bitsL (q.n - (lbases.getD (lenK q.n) 0).toNat) (lbits.getD (lenK q.n) 0).toNat ++ (litB ds (distK q.d) ++ bitsL (q.d - (dbases.getD (distK q.d) 0).toNat) (dbits.getD (distK q.d) 0).toNat))) :
    matchR bt most ds out (lenK q.n) p = .ok (copyR out q.d q.n) (p + (bitsL (q.n - (lbases.getD (lenK q.n) 0).toNat) (lbits.getD (lenK q.n) 0).toNat ++ (litB ds (distK q.d) ++ bitsL (q.d - (dbases.getD (distK q.d) 0).toNat) (dbits.getD (distK q.d) 0).toNat)).length) := by
  rcases ho with ⟨h0, _⟩ | ⟨hb, h3, h258, hd1, hd2, hdo⟩
  · exact absurd h0 hq
  obtain ⟨l1, l2⟩ := lenK_spec h3 h258
  obtain ⟨d1, d2⟩ := distK_spec hd1 hd2
  have k1 := lenK_le q.n
  have k2 := distK_le q.d
  have a1 := h.left
  have a2 := h.right
  rw [bitsL_len] at a2
  have a3 := a2.left
  have a4 := a2.right
  unfold matchR
  rw [if_neg (by omega), numR_at a1]
  simp only [Res.bind]
  rw [symR_at hok hc a3]
  simp only
  rw [if_neg (by omega), numR_at a4]
  simp only
  rw [Nat.mod_eq_of_lt l2, Nat.mod_eq_of_lt d2, if_neg (by omega), if_neg (by omega)]
  rw [show (dbases.getD (distK q.d) 0).toNat + (q.d - (dbases.getD (distK q.d) 0).toNat) = q.d by omega, show (lbases.getD (lenK q.n) 0).toNat + (q.n - (lbases.getD (lenK q.n) 0).toNat) = q.n by omega]
  simp only [List.length_append, bitsL_len]
  congr 1
  omega
theorem copy_len (out : List Int) (far : Nat) : ∀ n, (copyR out far n).length = out.length + n
  | 0 => rfl
  | n + 1 => by rw [copyR, List.length_append, copy_len out far n]; rfl
theorem say1_len (out : List Int) (p : Pc) : (say1 out p).length = out.length + if p.n = 0 then 1 else p.n := by
  unfold say1
  split
  · simp
  · exact copy_len _ _ _
theorem sayAll_len (l : List Pc) : ∀ out : List Int, out.length ≤ (sayAll out l).length := by
  induction l with
  | nil => intro out; exact Nat.le_refl _
  | cons p l ih =>
    intro out
    have h1 := ih (say1 out p)
    have h2 := say1_len out p
    show out.length ≤ (sayAll (say1 out p) l).length
    omega
/-- Pieces by two codes are read as what they say. -/
theorem syms_say {bt zs ds : List Int} {most : Nat} (hz : countsOk zs = true) (hd : countsOk ds = true) (hend : HasC zs 256) : ∀ (l : List Pc) (out : List Int) (p f : Nat), l.length < f → At bt p (pcsB zs ds l) → OkAll out l → (∀ q ∈ l, HasP zs ds q) → (sayAll out l).length ≤ most →
    symsR bt most zs ds f out p = .ok (sayAll out l) (p + (pcsB zs ds l).length) := by
  intro l
  induction l with
  | nil =>
    intro out p f hf h _ _ _
    obtain ⟨f, rfl⟩ : ∃ g, f = g + 1 := ⟨f - 1, by simp at hf; omega⟩
    have h' : At bt p (litB zs 256) := by simpa [pcsB] using h
    rw [symsR, symR_at hz hend h']
    simp only [Res.bind, if_true]
    simp [pcsB, sayAll]
  | cons q l ih =>
    intro out p f hf h ho hh hm
    obtain ⟨f, rfl⟩ : ∃ g, f = g + 1 := ⟨f - 1, by simp at hf; omega⟩
    have e : pcsB zs ds (q :: l) = pcB zs ds q ++ pcsB zs ds l := by simp [pcsB]
    rw [e] at h
    have a1 := h.left
    have a2 := h.right
    have hq := hh q (List.mem_cons_self)
    have hrest := ih (say1 out q) (p + (pcB zs ds q).length) f (by simp at hf; omega) a2 ho.2 (fun x hx => hh x (List.mem_cons_of_mem _ hx)) hm
    have hlen := sayAll_len l (say1 out q)
    have hs1 := say1_len out q
    have hm' : (sayAll (say1 out q) l).length ≤ most := hm
    rw [symsR]
    by_cases hn : q.n = 0
    · have hb : q.b < 256 := by
        rcases ho.1 with h1 | h1
        · exact h1.2.2
        · omega
      have e1 : pcB zs ds q = litB zs q.b := by unfold pcB; rw [if_pos hn]
      have e2 : say1 out q = out ++ [(q.b : Int)] := by unfold say1; rw [if_pos hn]
      unfold HasP at hq
      rw [if_pos hn] at hq hs1
      rw [e1] at a1
      rw [symR_at hz hq a1]
      simp only [Res.bind]
      rw [if_neg (by omega), if_neg (by omega), if_neg (by omega), ← e2, ← e1, hrest, e]
      simp only [List.length_append]
      congr 1
      omega
    · unfold HasP at hq
      rw [if_neg hn] at hq hs1
      have e1 : pcB zs ds q = litB zs (257 + lenK q.n) ++ (bitsL (q.n - (lbases.getD (lenK q.n) 0).toNat) (lbits.getD (lenK q.n) 0).toNat ++ (litB ds (distK q.d) ++ bitsL (q.d - (dbases.getD (distK q.d) 0).toNat) (dbits.getD (distK q.d) 0).toNat)) := by unfold pcB; rw [if_neg hn]
      have e2 : say1 out q = copyR out q.d q.n := by unfold say1; rw [if_neg hn]
      rw [e1] at a1
      have hM := matchR_at (most := most) hd hn ho.1 hq.2 (by omega) a1.right
      have hS := symR_at hz hq.1 a1.left
      rw [hS]
      simp only [Res.bind]
      rw [if_neg (by omega), if_pos (by omega), show 257 + lenK q.n - 257 = lenK q.n by omega, hM]
      simp only
      rw [← e2]
      have e3 : p + (litB zs (257 + lenK q.n)).length + (bitsL (q.n - (lbases.getD (lenK q.n) 0).toNat) (lbits.getD (lenK q.n) 0).toNat ++ (litB ds (distK q.d) ++ bitsL (q.d - (dbases.getD (distK q.d) 0).toNat) (dbits.getD (distK q.d) 0).toNat)).length = p + (pcB zs ds q).length := by
        rw [e1]; simp only [List.length_append]; omega
      rw [e3, hrest, e, List.length_append]
      congr 1
      omega
end Go.Proofs.YtlhaehefhhcgaaaDoor
namespace Go.Proofs.YtlhaehefhhcgaaaDoor
set_option linter.unusedVariables false

/-- A symbol of the code for lengths, and bits behind it. -/
structure Pt where
  s : Nat
  x : Nat
  k : Nat
def Pt.Ok (acc : List Int) (q : Pt) : Prop := (q.s < 16 ∧ q.x = 0 ∧ q.k = 0) ∨ (q.s = 16 ∧ q.k = 2 ∧ q.x < 4 ∧ acc ≠ []) ∨ (q.s = 17 ∧ q.k = 3 ∧ q.x < 8) ∨ (q.s = 18 ∧ q.k = 7 ∧ q.x < 128)
def ptSay (acc : List Int) (q : Pt) : List Int :=
  if q.s = 16 then acc ++ List.replicate (3 + q.x) (acc.getD (acc.length - 1) 0) else if q.s = 17 then acc ++ List.replicate (3 + q.x) 0 else if q.s = 18 then acc ++ List.replicate (11 + q.x) 0 else acc ++ [(q.s : Int)]
def ptB (cs : List Int) (q : Pt) : List Int := litB cs q.s ++ bitsL q.x q.k
def ptsB (cs : List Int) (l : List Pt) : List Int := l.flatMap (ptB cs)
def ptsSay (acc : List Int) (l : List Pt) : List Int := l.foldl ptSay acc
def PtsOk : List Int → List Pt → Prop
  | _, [] => True
  | acc, q :: l => q.Ok acc ∧ PtsOk (ptSay acc q) l
theorem ptSay_len (acc : List Int) (q : Pt) : acc.length < (ptSay acc q).length := by
  unfold ptSay
  split
  · simp only [List.length_append, List.length_replicate]; omega
  split
  · simp only [List.length_append, List.length_replicate]; omega
  split
  · simp only [List.length_append, List.length_replicate]; omega
  · simp
theorem ptsSay_len (l : List Pt) : ∀ acc : List Int, acc.length ≤ (ptsSay acc l).length := by
  induction l with
  | nil => intro acc; exact Nat.le_refl _
  | cons q l ih =>
    intro acc
    have h1 := ih (ptSay acc q)
    have h2 := ptSay_len acc q
    show acc.length ≤ (ptsSay (ptSay acc q) l).length
    omega
theorem lens_say {bt cs : List Int} {n : Nat} (hc : countsOk cs = true) : ∀ (l : List Pt) (acc : List Int) (p f : Nat), l.length < f → At bt p (ptsB cs l) → PtsOk acc l → (∀ q ∈ l, HasC cs q.s) → (ptsSay acc l).length = n →
    lensR bt cs n f acc p = .ok (ptsSay acc l) (p + (ptsB cs l).length) := by
  intro l
  induction l with
  | nil =>
    intro acc p f hf h _ _ hn
    obtain ⟨f, rfl⟩ : ∃ g, f = g + 1 := ⟨f - 1, by simp at hf; omega⟩
    rw [lensR, if_pos (by rw [← hn]; exact Nat.le_refl _)]
    simp [ptsSay, ptsB]
  | cons q l ih =>
    intro acc p f hf h ho hh hn
    obtain ⟨f, rfl⟩ : ∃ g, f = g + 1 := ⟨f - 1, by simp at hf; omega⟩
    have e : ptsB cs (q :: l) = ptB cs q ++ ptsB cs l := by simp [ptsB]
    rw [e] at h
    have a1 := h.left
    have a2 := h.right
    have hn' : (ptsSay (ptSay acc q) l).length = n := hn
    have h1 := ptSay_len acc q
    have h2 := ptsSay_len l (ptSay acc q)
    have hrest := ih (ptSay acc q) (p + (ptB cs q).length) f (by simp at hf; omega) a2 ho.2 (fun x hx => hh x (List.mem_cons_of_mem _ hx)) hn'
    have hS := symR_at hc (hh q List.mem_cons_self) a1.left
    have a3 := a1.right
    have hN := numR_at a3
    have hl : (ptB cs q).length = (litB cs q.s).length + q.k := by unfold ptB; rw [List.length_append, bitsL_len]
    rw [lensR, if_neg (by omega), hS]
    simp only [Res.bind]
    have fin : ∀ (v : Int) (k : Nat), ptSay acc q = acc ++ List.replicate k v → (if n < acc.length + k then Res.bad false else lensR bt cs n f (acc ++ List.replicate k v) (p + (litB cs q.s).length + q.k)) = .ok (ptsSay acc (q :: l)) (p + (ptsB cs (q :: l)).length) := by
      intro v k hv
      have h3 : (ptSay acc q).length = acc.length + k := by rw [hv, List.length_append, List.length_replicate]
      rw [if_neg (by omega), ← hv, show p + (litB cs q.s).length + q.k = p + (ptB cs q).length by omega, hrest, e, List.length_append]
      show Res.ok _ _ = Res.ok _ _
      congr 1
      omega
    rcases ho.1 with ⟨hs, hx, hk⟩ | ⟨hs, hk, hx, hne⟩ | ⟨hs, hk, hx⟩ | ⟨hs, hk, hx⟩
    · rw [if_neg (by omega), if_neg (by omega), if_neg (by omega)]
      simp only
      have := fin (q.s : Int) 1 (by unfold ptSay; rw [if_neg (by omega), if_neg (by omega), if_neg (by omega)]; rfl)
      rw [hk] at this
      exact this
    · have hlen : acc.length ≠ 0 := fun h => hne (List.eq_nil_of_length_eq_zero h)
      rw [hk] at hN
      rw [if_pos hs, if_neg hlen, hN]
      simp only
      rw [Nat.mod_eq_of_lt (by omega)]
      have := fin (acc.getD (acc.length - 1) 0) (3 + q.x) (by unfold ptSay; rw [if_pos hs])
      rw [hk] at this
      exact this
    · rw [hk] at hN
      rw [if_neg (by omega), if_pos hs, hN]
      simp only
      rw [Nat.mod_eq_of_lt (by omega)]
      have := fin 0 (3 + q.x) (by unfold ptSay; rw [if_neg (by omega), if_pos hs])
      rw [hk] at this
      exact this
    · rw [hk] at hN
      rw [if_neg (by omega), if_neg (by omega), if_pos hs, hN]
      simp only
      rw [Nat.mod_eq_of_lt (by omega)]
      have := fin 0 (11 + q.x) (by unfold ptSay; rw [if_neg (by omega), if_neg (by omega), if_pos hs])
      rw [hk] at this
      exact this
/-- Short lengths, three bits each, in their order. -/
def shB (sh : List Int) (c : Nat) : List Int := (List.range c).flatMap fun i => bitsL (sh.getD (orderL.getD i 0).toNat 0).toNat 3
def shSet (sh : List Int) : Nat → List Int
  | 0 => List.replicate 19 0
  | c + 1 => (shSet sh c).set (orderL.getD c 0).toNat (sh.getD (orderL.getD c 0).toNat 0)
theorem shB_len (sh : List Int) (c : Nat) : (shB sh c).length = 3 * c := by
  induction c with
  | zero => rfl
  | succ c ih =>
    unfold shB at ih ⊢
    rw [List.range_succ, List.flatMap_append, List.length_append, ih]
    simp [bitsL_len]
    omega
theorem shorts_say {bt sh : List Int} (h8 : ∀ z ∈ sh, 0 ≤ z ∧ z < 8) : ∀ (c p : Nat), At bt p (shB sh c) → shortsR bt c p = .ok (shSet sh c) (p + 3 * c)
  | 0, p, _ => rfl
  | c + 1, p, h => by
    have e : shB sh (c + 1) = shB sh c ++ bitsL (sh.getD (orderL.getD c 0).toNat 0).toNat 3 := by simp [shB, List.range_succ]
    rw [e] at h
    have a2 := h.right
    rw [shB_len] at a2
    rw [shortsR, shorts_say h8 c p h.left]
    simp only [Res.bind]
    rw [numR_at a2]
    simp only
    have hb : 0 ≤ sh.getD (orderL.getD c 0).toNat 0 ∧ sh.getD (orderL.getD c 0).toNat 0 < 8 := by
      by_cases hlt : (orderL.getD c 0).toNat < sh.length
      · refine h8 _ ?_
        rw [List.getD_eq_getElem?_getD, List.getElem?_eq_getElem hlt]
        exact List.getElem_mem _
      · rw [List.getD_eq_getElem?_getD, List.getElem?_eq_none (by omega)]
        simp
    rw [Nat.mod_eq_of_lt (by omega), shSet]
    congr 1
    · congr 1
      omega
theorem shSet_len (sh : List Int) : ∀ c, (shSet sh c).length = 19
  | 0 => by simp [shSet]
  | c + 1 => by rw [shSet, List.length_set, shSet_len sh c]
/-- What has been set; what not. -/
theorem shSet_get (sh : List Int) : ∀ c j, c ≤ 19 → j < 19 → (shSet sh c).getD j 0 = if ∃ i, i < c ∧ (orderL.getD i 0).toNat = j then sh.getD j 0 else 0
  | 0, j, _, hj => by
    rw [if_neg (fun ⟨i, hi, _⟩ => by omega)]
    show (List.replicate 19 (0 : Int)).getD j 0 = 0
    rw [List.getD_eq_getElem?_getD, List.getElem?_replicate]
    split <;> rfl
  | c + 1, j, hc, hj => by
    have ih := shSet_get sh c j (by omega) hj
    rw [shSet]
    by_cases he : (orderL.getD c 0).toNat = j
    · rw [he, if_pos ⟨c, by omega, he⟩]
      have := shSet_len sh c
      simp [show j < (shSet sh c).length by omega]
    · have h1 : ((shSet sh c).set (orderL.getD c 0).toNat (sh.getD (orderL.getD c 0).toNat 0)).getD j 0 = (shSet sh c).getD j 0 := by
        generalize sh.getD (orderL.getD c 0).toNat 0 = vc
        generalize (orderL.getD c 0).toNat = oc at he
        rw [List.getD_eq_getElem?_getD, List.getD_eq_getElem?_getD, List.getElem?_set_ne he]
      rw [h1, ih]
      by_cases hx : ∃ i, i < c ∧ (orderL.getD i 0).toNat = j
      · rw [if_pos hx]
        obtain ⟨i, hi, hi2⟩ := hx
        rw [if_pos ⟨i, by omega, hi2⟩]
      · rw [if_neg hx, if_neg]
        rintro ⟨i, hi, hi2⟩
        by_cases hic : i = c
        · subst hic; exact he hi2
        · exact hx ⟨i, by omega, hi2⟩
theorem order_onto : ∀ j, j < 19 → ∃ i, i < 19 ∧ (orderL.getD i 0).toNat = j := by decide
theorem shSet_all {sh : List Int} (hl : sh.length = 19) {c : Nat} (hc : c ≤ 19) (h0 : ∀ i, c ≤ i → i < 19 → sh.getD (orderL.getD i 0).toNat 0 = 0) : shSet sh c = sh := by
  apply List.ext_getElem
  · rw [shSet_len, hl]
  · intro j h1 h2
    have h3 := shSet_get sh c j hc (by omega)
    have e1 : (shSet sh c)[j] = (shSet sh c).getD j 0 := by simp [h1]
    have e2 : sh[j] = sh.getD j 0 := by simp [h2]
    rw [e1, e2, h3]
    split
    · rfl
    · rename_i hn
      obtain ⟨i, hi, hi2⟩ := order_onto j (by omega)
      by_cases hic : i < c
      · exact absurd ⟨i, hic, hi2⟩ hn
      · have := h0 i (by omega) hi
        rw [hi2] at this
        exact this.symm
/-- Bytes as they are. -/
def byB (bs : List Int) : List Int := bs.flatMap fun b => bitsL b.toNat 8
theorem byB_len (bs : List Int) : (byB bs).length = 8 * bs.length := by
  induction bs with
  | nil => rfl
  | cons b bs ih =>
    unfold byB at ih ⊢
    rw [List.flatMap_cons, List.length_append, ih, bitsL_len, List.length_cons]
    omega
theorem bytesR_cons (bt : List Int) (p n : Nat) : bytesR bt p (n + 1) = (numOf ((bt.drop p).take 8) : Int) :: bytesR bt (p + 8) n := by
  unfold bytesR
  rw [List.range_succ_eq_map, List.map_cons, List.map_map]
  congr 1
  apply List.map_congr_left
  intro i _
  simp only [Function.comp]
  rw [show p + 8 * (i + 1) = p + 8 + 8 * i by omega]
theorem bytes_at {bt : List Int} : ∀ (bs : List Int) (p : Nat), (∀ b ∈ bs, 0 ≤ b ∧ b < 256) → At bt p (byB bs) → bytesR bt p bs.length = bs
  | [], p, _, _ => rfl
  | b :: bs, p, hb, h => by
    have e : byB (b :: bs) = bitsL b.toNat 8 ++ byB bs := by simp [byB]
    rw [e] at h
    have a2 := h.right
    rw [bitsL_len] at a2
    have hb1 := hb b List.mem_cons_self
    have hN := numR_ok (numR_at h.left)
    rw [List.length_cons, bytesR_cons, bytes_at bs (p + 8) (fun x hx => hb x (List.mem_cons_of_mem _ hx)) a2, ← hN.2.2, Nat.mod_eq_of_lt (by omega)]
    congr 1
    omega
theorem stored_say {bt out bs : List Int} {most p : Nat} (hb : ∀ b ∈ bs, 0 ≤ b ∧ b < 256) (hn : bs.length ≤ 65535) (hm : out.length + bs.length ≤ most) (h : At bt (alignR p) (bitsL bs.length 16 ++ (bitsL (65535 - bs.length) 16 ++ byB bs))) :
    storedR bt most out p = .ok (out ++ bs) (alignR p + 32 + 8 * bs.length) := by
  have a1 := h.left
  have a2 := h.right
  rw [bitsL_len] at a2
  have a3 := a2.right
  rw [bitsL_len] at a3
  have hl := a3.len
  rw [byB_len] at hl
  unfold storedR
  rw [numR_at a1]
  simp only [Res.bind]
  rw [numR_at a2.left]
  simp only
  rw [Nat.mod_eq_of_lt (by omega), Nat.mod_eq_of_lt (by omega), if_neg (by omega), if_neg (by omega), bytes_at bs _ hb a3]
theorem litB_pos {zs : List Int} {s : Nat} (h : HasC zs s) : 1 ≤ (litB zs s).length := by
  unfold litB
  rw [codeBits_len]
  have := h.2
  omega
theorem ptsB_ge {cs : List Int} : ∀ (l : List Pt), (∀ q ∈ l, HasC cs q.s) → l.length ≤ (ptsB cs l).length
  | [], _ => Nat.zero_le _
  | q :: l, h => by
    have ih := ptsB_ge l (fun x hx => h x (List.mem_cons_of_mem _ hx))
    have h1 := litB_pos (h q List.mem_cons_self)
    have e : ptsB cs (q :: l) = ptB cs q ++ ptsB cs l := by simp [ptsB]
    rw [e, List.length_append, List.length_cons]
    unfold ptB
    rw [List.length_append]
    omega
theorem pcsB_ge {zs ds : List Int} : ∀ (l : List Pc), (∀ q ∈ l, HasP zs ds q) → l.length ≤ (pcsB zs ds l).length
  | [], _ => Nat.zero_le _
  | q :: l, h => by
    have ih := pcsB_ge l (fun x hx => h x (List.mem_cons_of_mem _ hx))
    have hq := h q List.mem_cons_self
    have e : pcsB zs ds (q :: l) = pcB zs ds q ++ pcsB zs ds l := by simp [pcsB]
    rw [e, List.length_append, List.length_cons]
    unfold HasP at hq
    unfold pcB
    split at hq
    · rename_i hn
      rw [if_pos hn]
      have := litB_pos hq
      omega
    · rename_i hn
      rw [if_neg hn, List.length_append]
      have := litB_pos hq.1
      omega
/-- A block of codes of its own. -/
def dynB (zs ds sh : List Int) (c : Nat) (pts : List Pt) (l : List Pc) : List Int :=
  bitsL (zs.length - 257) 5 ++ (bitsL (ds.length - 1) 5 ++ (bitsL (c - 4) 4 ++ (shB sh c ++ (ptsB sh pts ++ pcsB zs ds l))))
theorem dyn_say {bt zs ds sh out : List Int} {most p c : Nat} {pts : List Pt} {l : List Pc} (hz : countsOk zs = true) (hd : countsOk ds = true) (hs : countsOk sh = true) (hzl : 257 ≤ zs.length ∧ zs.length ≤ 286) (hdl : 1 ≤ ds.length ∧ ds.length ≤ 30)
    (hc : 4 ≤ c ∧ c ≤ 19) (hsl : sh.length = 19) (h8 : ∀ z ∈ sh, 0 ≤ z ∧ z < 8) (h0 : ∀ i, c ≤ i → i < 19 → sh.getD (orderL.getD i 0).toNat 0 = 0) (hpo : PtsOk [] pts) (hpc : ∀ q ∈ pts, HasC sh q.s) (hps : ptsSay [] pts = zs ++ ds)
    (hend : HasC zs 256) (ho : OkAll out l) (hh : ∀ q ∈ l, HasP zs ds q) (hm : (sayAll out l).length ≤ most) (h : At bt p (dynB zs ds sh c pts l)) :
    dynamicR bt most out p = .ok (sayAll out l) (p + (dynB zs ds sh c pts l).length) := by
  unfold dynB at h
  have a1 := h.left
  have b1 := h.right
  rw [bitsL_len] at b1
  have b2 := b1.right
  rw [bitsL_len] at b2
  have b3 := b2.right
  rw [bitsL_len] at b3
  have b4 := b3.right
  rw [shB_len] at b4
  have b5 := b4.right
  have hpl := ptsB_ge pts hpc
  have hpl2 := b4.left.len
  have hll := pcsB_ge l hh
  have hll2 := b5.len
  unfold dynamicR
  rw [numR_at a1]
  simp only [Res.bind]
  rw [numR_at b1.left]
  simp only
  rw [numR_at b2.left]
  simp only
  rw [Nat.mod_eq_of_lt (by omega), Nat.mod_eq_of_lt (by omega), Nat.mod_eq_of_lt (by omega), if_neg (by omega), show 4 + (c - 4) = c by omega, shorts_say h8 c _ b3.left]
  simp only
  rw [shSet_all hsl hc.2 h0, if_pos hs, show 257 + (zs.length - 257) + (1 + (ds.length - 1)) = zs.length + ds.length by omega]
  rw [lens_say hs pts [] _ _ (by omega) b4.left hpo hpc (by rw [hps, List.length_append])]
  simp only
  rw [hps]
  have e1 : (zs ++ ds).getD 256 0 = zs.getD 256 0 := by
    simp only [List.getD_eq_getElem?_getD]
    rw [List.getElem?_append_left (by omega)]
  have h256 := hend.2
  rw [e1, if_neg (by omega), show 257 + (zs.length - 257) = zs.length by omega, List.take_left, List.drop_left]
  unfold codedR
  rw [if_pos ⟨hz, hd⟩, syms_say hz hd hend l out _ _ (by omega) b5 ho hh hm]
  unfold dynB
  simp only [List.length_append, bitsL_len, shB_len]
  congr 1
  omega
theorem fix_say {bt out : List Int} {most p : Nat} {l : List Pc} (ho : OkAll out l) (hh : ∀ q ∈ l, HasP fixedL fixedD q) (hm : (sayAll out l).length ≤ most) (h : At bt p (pcsB fixedL fixedD l)) :
    codedR bt most fixedL fixedD out p = .ok (sayAll out l) (p + (pcsB fixedL fixedD l).length) := by
  have hz : countsOk fixedL = true := by kernel_rfl
  have hd : countsOk fixedD = true := by kernel_rfl
  have hll := pcsB_ge l hh
  have hll2 := h.len
  unfold codedR
  rw [if_pos ⟨hz, hd⟩, syms_say hz hd ⟨of_decide_eq_true (by kernel_rfl), of_decide_eq_true (by kernel_rfl)⟩ l out _ _ (by omega) h ho hh hm]
end Go.Proofs.YtlhaehefhhcgaaaDoor
namespace Go.Proofs.YtlhaehefhhcgaaaDoor
set_option linter.unusedVariables false

/-- Do the same three bytes stand there? -/
def same3 (b : List Int) (i j : Nat) : Bool := b.getD i 0 == b.getD j 0 && b.getD (i + 1) 0 == b.getD (j + 1) 0 && b.getD (i + 2) 0 == b.getD (j + 2) 0
/-- The last place ahead of j where the three bytes at 'at' stand; -1: there is none. -/
def prevGo (b : List Int) (at' : Nat) : Nat → Int
  | 0 => -1
  | j + 1 => if same3 b j at' then (j : Int) else prevGo b at' j
def prevA (b : List Int) (at' : Nat) : Int := prevGo b at' at'
/-- How many bytes are alike: n of them are known to be, f more may be. -/
def mlGo (b : List Int) (from' at' : Nat) : Nat → Nat → Nat
  | 0, n => n
  | f + 1, n => if at' + n < b.length ∧ b.getD (from' + n) 0 = b.getD (at' + n) 0 then mlGo b from' at' f (n + 1) else n
def matchL (b : List Int) (from' at' : Nat) : Nat := mlGo b from' at' 258 0
/-- The longest match of those that are looked at. -/
def bestGo (b : List Int) (at' : Nat) : Nat → Int → Pc → Pc
  | 0, _, p => p
  | f + 1, from', p => if 0 ≤ from' ∧ (at' : Int) - from' ≤ 32768 then
      bestGo b at' f (prevA b from'.toNat) (if p.n < matchL b from'.toNat at' then ⟨0, matchL b from'.toNat at', at' - from'.toNat⟩ else p) else p
def bestP (b : List Int) (at' : Nat) : Pc :=
  if at' + 3 ≤ b.length then bestGo b at' 24 (prevA b at') ⟨(b.getD at' 0).toNat, 0, 0⟩ else ⟨(b.getD at' 0).toNat, 0, 0⟩
def parseGo (b : List Int) : Nat → Nat → List Pc
  | 0, _ => []
  | f + 1, at' => if at' < b.length then bestP b at' :: parseGo b f (at' + max (bestP b at').n 1) else []
def parseP (b : List Int) : List Pc := parseGo b b.length 0

theorem prevGo_lt (b : List Int) (at' : Nat) : ∀ j, -1 ≤ prevGo b at' j ∧ prevGo b at' j < j ∧ (0 ≤ prevGo b at' j → same3 b (prevGo b at' j).toNat at' = true)
  | 0 => ⟨by simp [prevGo], by simp [prevGo], fun h => by simp [prevGo] at h⟩
  | j + 1 => by
    unfold prevGo
    split
    · rename_i h
      exact ⟨by omega, by omega, fun _ => by simpa using h⟩
    · obtain ⟨h1, h2, h3⟩ := prevGo_lt b at' j
      exact ⟨h1, by omega, h3⟩
theorem prevA_lt (b : List Int) (at' : Nat) : -1 ≤ prevA b at' ∧ prevA b at' < at' ∧ (0 ≤ prevA b at' → same3 b (prevA b at').toNat at' = true) := prevGo_lt b at' at'
/-- Bytes alike from a place on. -/
def Alike (b : List Int) (i j n : Nat) : Prop := j + n ≤ b.length ∧ ∀ k, k < n → b.getD (i + k) 0 = b.getD (j + k) 0
theorem mlGo_is (b : List Int) (i j : Nat) : ∀ f n, Alike b i j n → Alike b i j (mlGo b i j f n) ∧ n ≤ mlGo b i j f n ∧ mlGo b i j f n ≤ n + f
  | 0, n, h => ⟨h, Nat.le_refl _, Nat.le_refl _⟩
  | f + 1, n, h => by
    unfold mlGo
    split
    · rename_i hc
      obtain ⟨h1, h2, h3⟩ := mlGo_is b i j f (n + 1) ⟨by omega, fun k hk => by
        by_cases hkn : k = n
        · subst hkn; exact hc.2
        · exact h.2 k (by omega)⟩
      exact ⟨h1, by omega, by omega⟩
    · exact ⟨h, Nat.le_refl _, by omega⟩
theorem matchL_is (b : List Int) (i j : Nat) (hj : j ≤ b.length) : Alike b i j (matchL b i j) ∧ matchL b i j ≤ 258 := by
  have h := mlGo_is b i j 258 0 ⟨by omega, fun k hk => by omega⟩
  exact ⟨h.1, by have := h.2.2; unfold matchL; omega⟩
theorem mlGo_ge (b : List Int) (i j : Nat) : ∀ f n m, n ≤ m → m ≤ n + f → Alike b i j m → m ≤ mlGo b i j f n
  | 0, n, m, h1, h2, h3 => by simp only [mlGo]; omega
  | f + 1, n, m, h1, h2, h3 => by
    unfold mlGo
    by_cases hnm : n = m
    · subst hnm
      split
      · exact Nat.le_trans (Nat.le_succ n) (by
          rename_i hc
          have := (mlGo_is b i j f (n + 1) ⟨by omega, fun k hk => by
            by_cases hkn : k = n
            · subst hkn; exact hc.2
            · exact h3.2 k (by omega)⟩).2.1
          exact this)
      · exact Nat.le_refl _
    · rw [if_pos ⟨by have := h3.1; omega, h3.2 n (by omega)⟩]
      exact mlGo_ge b i j f (n + 1) m (by omega) (by omega) h3
theorem matchL_three {b : List Int} {i j : Nat} (h3 : same3 b i j = true) (hj : j + 3 ≤ b.length) : 3 ≤ matchL b i j := by
  simp only [same3, Bool.and_eq_true, beq_iff_eq] at h3
  refine mlGo_ge b i j 258 0 3 (by omega) (by omega) ⟨hj, fun k hk => ?_⟩
  obtain rfl | rfl | rfl : k = 0 ∨ k = 1 ∨ k = 2 := by omega
  · exact h3.1.1
  · exact h3.1.2
  · exact h3.2
theorem same3_trans {b : List Int} {i j k : Nat} (h : same3 b i j = true) (h2 : same3 b j k = true) : same3 b i k = true := by
  simp only [same3, Bool.and_eq_true, beq_iff_eq] at h h2 ⊢
  exact ⟨⟨h.1.1.trans h2.1.1, h.1.2.trans h2.1.2⟩, h.2.trans h2.2⟩
/-- A piece that stands at a place. -/
def Fits (b : List Int) (at' : Nat) (p : Pc) : Prop := (p.n = 0 ∧ p.d = 0 ∧ (p.b : Int) = b.getD at' 0 ∧ p.b < 256 ∧ at' < b.length) ∨ (p.b = 0 ∧ 3 ≤ p.n ∧ p.n ≤ 258 ∧ 1 ≤ p.d ∧ p.d ≤ 32768 ∧ p.d ≤ at' ∧ Alike b (at' - p.d) at' p.n)
theorem bestGo_fits (b : List Int) (at' : Nat) (h3 : at' + 3 ≤ b.length) : ∀ f from' p, (0 ≤ from' → from' < (at' : Int) ∧ same3 b from'.toNat at' = true) → Fits b at' p → Fits b at' (bestGo b at' f from' p)
  | 0, _, p, _, hp => hp
  | f + 1, from', p, hf, hp => by
    unfold bestGo
    split
    · rename_i hc
      obtain ⟨h1, h2⟩ := hf hc.1
      have hpa := prevA_lt b from'.toNat
      refine bestGo_fits b at' h3 f _ _ (fun h0 => ⟨by omega, same3_trans (hpa.2.2 h0) h2⟩) ?_
      split
      · have hm := matchL_is b from'.toNat at' (by omega)
        have hm3 := matchL_three h2 h3
        exact .inr ⟨rfl, hm3, hm.2, by simp only; omega, by simp only; omega, by simp only; omega, by simp only; rw [show at' - (at' - from'.toNat) = from'.toNat by omega]; exact hm.1⟩
      · exact hp
    · exact hp
theorem bestP_fits {b : List Int} (hB : ∀ z ∈ b, 0 ≤ z ∧ z < 256) {at' : Nat} (hat : at' < b.length) : Fits b at' (bestP b at') := by
  have hz := hB (b.getD at' 0) (by simp [hat])
  have h0 : Fits b at' ⟨(b.getD at' 0).toNat, 0, 0⟩ := .inl ⟨rfl, rfl, by simp only; omega, by simp only; omega, hat⟩
  unfold bestP
  split
  · rename_i h3
    have hpa := prevA_lt b at'
    exact bestGo_fits b at' h3 24 _ _ (fun hp => ⟨hpa.2.1, hpa.2.2 hp⟩) h0
  · exact h0
theorem copy_alike {b : List Int} {i j : Nat} (hij : i < j) : ∀ n, Alike b i j n → copyR (b.take j) (j - i) n = b.take (j + n)
  | 0, _ => rfl
  | n + 1, h => by
    have ih := copy_alike hij n ⟨by have := h.1; omega, fun k hk => h.2 k (by omega)⟩
    have h1 := h.1
    rw [copyR, ih, show j + (n + 1) = j + n + 1 from rfl, take_snoc b (j + n) (by omega)]
    congr 2
    rw [List.length_take, Nat.min_eq_left (by omega), show j + n - (j - i) = i + n by omega, ← h.2 n (by omega)]
    simp only [List.getD_eq_getElem?_getD]
    rw [List.getElem?_take_of_lt (by omega)]
theorem fits_say {b : List Int} {at' : Nat} {p : Pc} (h : Fits b at' p) : p.Ok (b.take at') ∧ say1 (b.take at') p = b.take (at' + max p.n 1) ∧ at' + max p.n 1 ≤ b.length := by
  rcases h with ⟨hn, hd, hb, hlt, hat⟩ | ⟨hb, h3, h258, hd1, hd2, hda, hal⟩
  · refine ⟨.inl ⟨hn, hd, hlt⟩, ?_, by rw [hn]; simp only [Nat.zero_max]; omega⟩
    unfold say1
    rw [if_pos hn, hn, hb, Nat.zero_max, take_snoc b at' hat]
  · have h1 := hal.1
    refine ⟨.inr ⟨hb, h3, h258, hd1, hd2, by rw [List.length_take]; omega⟩, ?_, by rw [Nat.max_eq_left (by omega)]; omega⟩
    unfold say1
    rw [if_neg (by omega), Nat.max_eq_left (by omega)]
    have := copy_alike (show at' - p.d < at' by omega) p.n hal
    rwa [show at' - (at' - p.d) = p.d by omega] at this
theorem parseGo_says {b : List Int} (hB : ∀ z ∈ b, 0 ≤ z ∧ z < 256) : ∀ f at', at' ≤ b.length → b.length ≤ at' + f → OkAll (b.take at') (parseGo b f at') ∧ sayAll (b.take at') (parseGo b f at') = b
  | 0, at', h1, h2 => ⟨trivial, by show b.take at' = b; exact List.take_of_length_le (by omega)⟩
  | f + 1, at', h1, h2 => by
    unfold parseGo
    split
    · rename_i hat
      obtain ⟨k1, k2, k3⟩ := fits_say (bestP_fits hB hat)
      have hmx : 1 ≤ max (bestP b at').n 1 := Nat.le_max_right _ _
      obtain ⟨i1, i2⟩ := parseGo_says hB f (at' + max (bestP b at').n 1) k3 (by omega)
      rw [← k2] at i1 i2
      exact ⟨⟨k1, i1⟩, i2⟩
    · exact ⟨trivial, by show b.take at' = b; exact List.take_of_length_le (by omega)⟩
/-- The pieces say the bytes. -/
theorem parse_says {b : List Int} (hB : ∀ z ∈ b, 0 ≤ z ∧ z < 256) : OkAll [] (parseP b) ∧ sayAll [] (parseP b) = b := by
  have := parseGo_says hB b.length 0 (Nat.zero_le _) (by omega)
  rw [List.take_zero] at this
  exact this
end Go.Proofs.YtlhaehefhhcgaaaDoor
namespace Go.Proofs.YtlhaehefhhcgaaaDoor
set_option linter.unusedVariables false

theorem bitsL_add (n m : Nat) : ∀ v, bitsL v (n + m) = bitsL v n ++ bitsL (v / 2 ^ n) m := by
  induction n with
  | zero => intro v; simp [bitsL]
  | succ n ih =>
    intro v
    rw [show n + 1 + m = (n + m) + 1 by omega]
    simp only [bitsL]
    rw [ih (v / 2), Nat.div_div_eq_div_mul, show 2 * 2 ^ n = 2 ^ (n + 1) by rw [Nat.pow_succ]; omega]
    rfl
def kindR (bt : List Int) (most kind : Nat) (out : List Int) (p : Nat) : Res (List Int) :=
  if kind = 0 then storedR bt most out p else if kind = 1 then codedR bt most fixedL fixedD out p else if kind = 2 then dynamicR bt most out p else .bad false
theorem block_head {bt : List Int} {p v : Nat} {X : List Int} (hv : v < 8) (h : At bt p (bitsL v 3 ++ X)) : numR bt p 1 = .ok (v % 2) (p + 1) ∧ numR bt (p + 1) 2 = .ok (v / 2) (p + 1 + 2) ∧ At bt (p + 1 + 2) X := by
  have e : bitsL v 3 = bitsL v 1 ++ bitsL (v / 2) 2 := bitsL_add 1 2 v
  rw [e, List.append_assoc] at h
  have a1 := h.left
  have a2 := h.right
  rw [bitsL_len] at a2
  have a3 := a2.right
  rw [bitsL_len] at a3
  refine ⟨numR_at a1, ?_, a3⟩
  have := numR_at a2.left
  rwa [Nat.mod_eq_of_lt (by omega)] at this
theorem blocks_last {bt : List Int} {most f p v q : Nat} {X out out' : List Int} (hv : v < 8) (h1 : v % 2 = 1) (h : At bt p (bitsL v 3 ++ X)) (hk : kindR bt most (v / 2) out (p + 1 + 2) = .ok out' q) : blocksR bt most (f + 1) out p = .ok out' q := by
  obtain ⟨a1, a2, a3⟩ := block_head hv h
  rw [blocksR, a1]
  simp only [Res.bind]
  rw [a2]
  simp only
  unfold kindR at hk
  rw [hk]
  simp only
  rw [if_neg (by omega)]
theorem blocks_more {bt : List Int} {most f p v q : Nat} {X out out' : List Int} (hv : v < 8) (h1 : v % 2 = 0) (h : At bt p (bitsL v 3 ++ X)) (hk : kindR bt most (v / 2) out (p + 1 + 2) = .ok out' q) : blocksR bt most (f + 1) out p = blocksR bt most f out' q := by
  obtain ⟨a1, a2, a3⟩ := block_head hv h
  rw [blocksR, a1]
  simp only [Res.bind]
  rw [a2]
  simp only
  unfold kindR at hk
  rw [hk]
  simp only
  rw [if_pos h1]
/-- Bytes as they are, in one block that begins where a byte does. -/
def stoB (last : Nat) (c : List Int) : List Int := bitsL last 3 ++ (List.replicate 5 0 ++ (bitsL c.length 16 ++ (bitsL (65535 - c.length) 16 ++ byB c)))
theorem stoB_len (last : Nat) (c : List Int) : (stoB last c).length = 40 + 8 * c.length := by
  unfold stoB
  simp only [List.length_append, bitsL_len, byB_len, List.length_replicate]
  omega
theorem sto_kind {bt out c : List Int} {most p last : Nat} (hp : p % 8 = 0) (hlast : last < 2) (hc : ∀ b ∈ c, 0 ≤ b ∧ b < 256) (hn : c.length ≤ 65535) (hm : out.length + c.length ≤ most) (h : At bt p (stoB last c)) :
    kindR bt most (last / 2) out (p + 1 + 2) = .ok (out ++ c) (p + (stoB last c).length) := by
  unfold stoB at h
  have a := h.right
  rw [bitsL_len] at a
  have b := a.right
  rw [List.length_replicate] at b
  have hal : alignR (p + 1 + 2) = p + 3 + 5 := by unfold alignR; omega
  unfold kindR
  rw [if_pos (by omega), stored_say hc hn hm (by rw [hal]; exact b), hal, stoB_len]
  congr 1
  omega
def plainB (b : List Int) : List Int := if b.length ≤ 65535 then stoB 1 b else stoB 0 (b.take 65535) ++ stoB 1 (b.drop 65535)
theorem plainB_len {b : List Int} (h : b.length ≤ 65536) : (plainB b).length = 8 * (b.length + 5 * (b.length / 65536 + 1)) := by
  unfold plainB
  split
  · rw [stoB_len]; omega
  · rw [List.length_append, stoB_len, stoB_len, List.length_take, List.length_drop]; omega
theorem plain_says {bt b : List Int} {most : Nat} (hb : ∀ z ∈ b, 0 ≤ z ∧ z < 256) (h16 : b.length ≤ 65536) (hm : b.length ≤ most) (h : At bt 0 (plainB b)) : inflateR bt most = .ok b (plainB b).length := by
  have hl := h.len
  unfold inflateR
  unfold plainB at h ⊢
  split at h
  · rename_i hle
    rw [if_pos hle]
    have hk := sto_kind (out := []) (most := most) (p := 0) rfl (by omega) hb hle (by simpa using hm) h
    rw [blocks_last (v := 1) (by omega) rfl h hk]
    simp
  · rename_i hle
    rw [if_neg hle]
    have hb1 : ∀ z ∈ b.take 65535, 0 ≤ z ∧ z < 256 := fun z hz => hb z (List.mem_of_mem_take hz)
    have hb2 : ∀ z ∈ b.drop 65535, 0 ≤ z ∧ z < 256 := fun z hz => hb z (List.mem_of_mem_drop hz)
    have l1 : (b.take 65535).length = 65535 := by rw [List.length_take]; omega
    have l2 : (b.drop 65535).length = b.length - 65535 := List.length_drop
    have hk := sto_kind (out := []) (most := most) (p := 0) (last := 0) rfl (by omega) hb1 (by omega) (by simp only [List.length_nil]; omega) h.left
    have h2 := h.right
    have s1 := stoB_len 0 (b.take 65535)
    have hk2 := sto_kind (out := b.take 65535) (most := most) (last := 1) (p := 0 + (stoB 0 (b.take 65535)).length) (by omega) (by omega) hb2 (by omega) (by omega) h2
    have hbt : (bt.length + 1) = (bt.length - 1) + 1 + 1 := by
      have h3 := h2.len
      rw [stoB_len] at h3
      omega
    have hk' : kindR bt most (0 / 2) [] (0 + 1 + 2) = .ok (b.take 65535) (0 + (stoB 0 (b.take 65535)).length) := by simpa using hk
    rw [hbt, blocks_more (v := 0) (by omega) rfl h.left hk', blocks_last (v := 1) (by omega) rfl h2 hk2, List.take_append_drop, List.length_append]
    congr 1
    omega
theorem fixed_says {bt b : List Int} {most : Nat} {l : List Pc} (ho : OkAll [] l) (hs : sayAll [] l = b) (hh : ∀ q ∈ l, HasP fixedL fixedD q) (hm : b.length ≤ most) (h : At bt 0 (bitsL 3 3 ++ pcsB fixedL fixedD l)) :
    inflateR bt most = .ok b (3 + (pcsB fixedL fixedD l).length) := by
  have a := h.right
  rw [bitsL_len] at a
  have hk := fix_say (most := most) ho hh (by rw [hs]; exact hm) a
  rw [hs] at hk
  unfold inflateR
  refine blocks_last (v := 3) (by omega) rfl h ?_
  unfold kindR
  rw [if_neg (by omega), if_pos rfl]
  simpa using hk
/-- Whatever stands behind a stream plays no part. -/
theorem At.more {bt X : List Int} {p : Nat} (h : At bt p X) (m : List Int) : At (bt ++ m) p X := by
  obtain ⟨h1, r, h2⟩ := h
  refine ⟨by rw [List.length_append]; omega, r ++ m, ?_⟩
  rw [List.drop_append_of_le_length h1, h2, List.append_assoc]
end Go.Proofs.YtlhaehefhhcgaaaDoor
namespace Go.Proofs.YtlhaehefhhcgaaaDoor
set_option linter.unusedVariables false

/-- Without the noughts behind, at least so many. -/
def trimGo (l : List Int) (least : Nat) : Nat → Nat
  | 0 => 0
  | n + 1 => if least < n + 1 ∧ l.getD n 0 = 0 then trimGo l least n else n + 1
def trimP (l : List Int) (least : Nat) : List Int := l.take (trimGo l least l.length)
theorem trimGo_is (l : List Int) (least : Nat) : ∀ n, trimGo l least n ≤ n ∧ (least ≤ n → least ≤ trimGo l least n) ∧ ∀ j, trimGo l least n ≤ j → j < n → l.getD j 0 = 0
  | 0 => ⟨Nat.le_refl _, fun h => h, fun j _ h => by omega⟩
  | n + 1 => by
    unfold trimGo
    split
    · rename_i h
      obtain ⟨h1, h2, h3⟩ := trimGo_is l least n
      refine ⟨by omega, fun _ => h2 (by omega), fun j hj hlt => ?_⟩
      by_cases hjn : j = n
      · subst hjn; exact h.2
      · exact h3 j hj (by omega)
    · exact ⟨Nat.le_refl _, fun h => h, fun j hj hlt => by omega⟩
theorem trimP_len {l : List Int} {least : Nat} (h : least ≤ l.length) : least ≤ (trimP l least).length ∧ (trimP l least).length ≤ l.length := by
  obtain ⟨h1, h2, h3⟩ := trimGo_is l least l.length
  unfold trimP
  rw [List.length_take, Nat.min_eq_left h1]
  exact ⟨h2 h, h1⟩
theorem trimP_split (l : List Int) (least : Nat) : ∃ k, l = trimP l least ++ List.replicate k 0 := by
  obtain ⟨h1, h2, h3⟩ := trimGo_is l least l.length
  refine ⟨l.length - trimGo l least l.length, ?_⟩
  conv => lhs; rw [← List.take_append_drop (trimGo l least l.length) l]
  unfold trimP
  congr 1
  apply List.ext_getElem
  · simp
  · intro j hj1 hj2
    rw [List.length_drop] at hj1
    have := h3 (trimGo l least l.length + j) (by omega) (by omega)
    simp only [List.getElem_drop, List.getElem_replicate]
    rw [List.getD_eq_getElem?_getD, List.getElem?_eq_getElem (by omega)] at this
    simpa using this
/-- Noughts behind a row of lengths play no part. -/
theorem cnt_zeros (zs : List Int) (k l : Nat) (hl : 0 < l) : cnt (zs ++ List.replicate k 0) l = cnt zs l := by
  unfold cnt
  rw [List.filter_append, List.length_append]
  have : (List.filter (fun z => z == (l : Int)) (List.replicate k 0)).length = 0 := by
    rw [List.length_eq_zero_iff, List.filter_eq_nil_iff]
    intro z hz
    have := List.eq_of_mem_replicate hz
    subst this
    simp; omega
  omega
theorem cntI_zeros (zs : List Int) (k l : Nat) : cntI (zs ++ List.replicate k 0) l = cntI zs l := by
  unfold cntI
  split
  · rfl
  · rename_i h
    rw [cnt_zeros zs k l (by omega)]
theorem firstAt_zeros (zs : List Int) (k : Nat) : ∀ l, firstAt (zs ++ List.replicate k 0) l = firstAt zs l
  | 0 => rfl
  | l + 1 => by simp only [firstAt, firstAt_zeros zs k l, cntI_zeros]
theorem leftAt_zeros (zs : List Int) (k : Nat) : ∀ l, leftAt (zs ++ List.replicate k 0) l = leftAt zs l
  | 0 => rfl
  | l + 1 => by simp only [leftAt, leftAt_zeros zs k l, cntI_zeros]
theorem leftsOk_zeros (zs : List Int) (k : Nat) : ∀ l, leftsOk (zs ++ List.replicate k 0) l = leftsOk zs l
  | 0 => rfl
  | l + 1 => by simp only [leftsOk, leftsOk_zeros zs k l, leftAt_zeros]
theorem posn_zeros (zs : List Int) (k : Nat) : posn (zs ++ List.replicate k 0) = posn zs := by
  unfold posn
  rw [List.filter_append, List.length_append]
  have : (List.filter (fun z : Int => decide (0 < z)) (List.replicate k 0)).length = 0 := by
    rw [List.length_eq_zero_iff, List.filter_eq_nil_iff]
    intro z hz
    have := List.eq_of_mem_replicate hz
    subst this
    simp
  omega
theorem countsOk_zeros {zs : List Int} {k : Nat} (h : countsOk (zs ++ List.replicate k 0) = true) : countsOk zs = true := by
  unfold countsOk at h ⊢
  rw [leftsOk_zeros, leftAt_zeros, posn_zeros, cntI_zeros] at h
  simp only [Bool.and_eq_true, decide_eq_true_eq, List.length_append, List.all_append] at h ⊢
  obtain ⟨⟨⟨h1, h2, h2'⟩, h3⟩, h4⟩ := h
  exact ⟨⟨⟨by omega, h2⟩, h3⟩, h4⟩
theorem get_zeros (zs : List Int) (k s : Nat) : (zs ++ List.replicate k 0).getD s 0 = zs.getD s 0 := by
  simp only [List.getD_eq_getElem?_getD]
  rcases Nat.lt_or_ge s zs.length with h | h
  · rw [List.getElem?_append_left h]
  · rw [List.getElem?_append_right h, List.getElem?_eq_none h, List.getElem?_replicate]
    split <;> rfl
theorem codeAt_zeros (zs : List Int) (k : Nat) {s : Nat} (hs : s < zs.length) : codeAt (zs ++ List.replicate k 0) s = codeAt zs s := by
  unfold codeAt
  simp only [get_zeros, firstAt_zeros, List.take_append_of_le_length (Nat.le_of_lt hs)]
theorem litB_zeros (zs : List Int) (k : Nat) {s : Nat} (hs : s < zs.length) : litB (zs ++ List.replicate k 0) s = litB zs s := by
  unfold litB
  rw [codeAt_zeros zs k hs, get_zeros]
theorem hasC_zeros {zs : List Int} {k s : Nat} (h : HasC (zs ++ List.replicate k 0) s) : HasC zs s := by
  have h2 := h.2
  rw [get_zeros] at h2
  refine ⟨?_, h2⟩
  rcases Nat.lt_or_ge s zs.length with h | h
  · exact h
  · rw [List.getD_eq_getElem?_getD, List.getElem?_eq_none h] at h2
    simp at h2
/-- A row of lengths in parts. -/
def runOf (z : Int) : List Int → Nat
  | [] => 0
  | y :: l => if y = z then runOf z l + 1 else 0
theorem runOf_is (z : Int) : ∀ l : List Int, runOf z l ≤ l.length ∧ l = List.replicate (runOf z l) z ++ l.drop (runOf z l)
  | [] => ⟨Nat.le_refl _, rfl⟩
  | y :: l => by
    unfold runOf
    split
    · rename_i h
      obtain ⟨h1, h2⟩ := runOf_is z l
      subst h
      refine ⟨by simp; omega, ?_⟩
      rw [List.replicate_succ, List.cons_append, List.drop_succ_cons, ← h2]
    · exact ⟨Nat.zero_le _, rfl⟩
def runsGo : Nat → List Int → List Pt
  | 0, _ => []
  | _, [] => []
  | f + 1, z :: l =>
    let n := runOf z l + 1
    if z = 0 ∧ 11 ≤ n then ⟨18, min n 138 - 11, 7⟩ :: runsGo f ((z :: l).drop (min n 138))
    else if z = 0 ∧ 3 ≤ n then ⟨17, n - 3, 3⟩ :: runsGo f ((z :: l).drop n)
    else if 0 < z ∧ 4 ≤ n then ⟨z.toNat, 0, 0⟩ :: ⟨16, min n 7 - 4, 2⟩ :: runsGo f ((z :: l).drop (min n 7))
    else ⟨z.toNat, 0, 0⟩ :: runsGo f l
def runsP (l : List Int) : List Pt := runsGo l.length l
theorem same_head {z : Int} {l : List Int} {n : Nat} (h : n ≤ runOf z l + 1) : z :: l = List.replicate n z ++ (z :: l).drop n := by
  obtain ⟨h1, h2⟩ := runOf_is z (z :: l)
  have e : runOf z (z :: l) = runOf z l + 1 := by simp [runOf]
  rw [e] at h2
  have h3 : (z :: l).take n = List.replicate n z := by
    rw [h2, List.take_append_of_le_length (by simp; omega), List.take_replicate, Nat.min_eq_left h]
  rw [← h3, List.take_append_drop]
theorem runs_say : ∀ (f : Nat) (l acc : List Int), l.length ≤ f → (∀ z ∈ l, 0 ≤ z ∧ z < 16) → PtsOk acc (runsGo f l) ∧ ptsSay acc (runsGo f l) = acc ++ l
  | 0, l, acc, h, _ => by
    have : l = [] := List.eq_nil_of_length_eq_zero (by omega)
    subst this
    exact ⟨trivial, by simp [runsGo, ptsSay]⟩
  | f + 1, [], acc, h, _ => ⟨trivial, by simp [runsGo, ptsSay]⟩
  | f + 1, z :: l, acc, h, hz => by
    have hz0 := hz z List.mem_cons_self
    have hlen : l.length + 1 ≤ f + 1 := by simpa using h
    have hd : ∀ n, ∀ y ∈ (z :: l).drop n, 0 ≤ y ∧ y < 16 := fun n y hy => hz y (List.mem_of_mem_drop hy)
    have hdl : ∀ n, 1 ≤ n → ((z :: l).drop n).length ≤ f := fun n hn => by rw [List.length_drop, List.length_cons]; omega
    unfold runsGo
    simp only
    split
    · rename_i hc
      have ih := runs_say f ((z :: l).drop (min (runOf z l + 1) 138)) (acc ++ List.replicate (min (runOf z l + 1) 138) 0) (hdl _ (by omega)) (hd _)
      have e : ptSay acc ⟨18, min (runOf z l + 1) 138 - 11, 7⟩ = acc ++ List.replicate (min (runOf z l + 1) 138) 0 := by
        unfold ptSay
        simp only
        rw [if_neg (by omega), if_neg (by omega), if_pos trivial, show 11 + (min (runOf z l + 1) 138 - 11) = min (runOf z l + 1) 138 by omega]
      refine ⟨⟨.inr (.inr (.inr ⟨rfl, rfl, by simp only; omega⟩)), by rw [e]; exact ih.1⟩, ?_⟩
      show ptsSay (ptSay acc _) _ = _
      rw [e, ih.2, List.append_assoc]
      have hh := same_head (z := z) (l := l) (n := min (runOf z l + 1) 138) (by omega)
      rw [hc.1] at hh ⊢
      rw [← hh]
    split
    · rename_i hc0 hc
      have ih := runs_say f ((z :: l).drop (runOf z l + 1)) (acc ++ List.replicate (runOf z l + 1) 0) (hdl _ (by omega)) (hd _)
      have e : ptSay acc ⟨17, runOf z l + 1 - 3, 3⟩ = acc ++ List.replicate (runOf z l + 1) 0 := by
        unfold ptSay
        simp only
        rw [if_neg (by omega), if_pos trivial, show 3 + (runOf z l + 1 - 3) = runOf z l + 1 by omega]
      have hlt : runOf z l + 1 < 11 := by
        rcases Nat.lt_or_ge (runOf z l + 1) 11 with h | h
        · exact h
        · exact absurd ⟨hc.1, h⟩ hc0
      refine ⟨⟨.inr (.inr (.inl ⟨rfl, rfl, by simp only; omega⟩)), by rw [e]; exact ih.1⟩, ?_⟩
      show ptsSay (ptSay acc _) _ = _
      rw [e, ih.2, List.append_assoc]
      have hh := same_head (z := z) (l := l) (n := runOf z l + 1) (by omega)
      rw [hc.1] at hh ⊢
      rw [← hh]
    have e1 : ptSay acc ⟨z.toNat, 0, 0⟩ = acc ++ [z] := by
      unfold ptSay
      simp only
      rw [if_neg (by omega), if_neg (by omega), if_neg (by omega), show ((z.toNat : Nat) : Int) = z by omega]
    split
    · rename_i hc0 hc1 hc
      have ih := runs_say f ((z :: l).drop (min (runOf z l + 1) 7)) (acc ++ List.replicate (min (runOf z l + 1) 7) z) (hdl _ (by omega)) (hd _)
      have e : ptSay (acc ++ [z]) ⟨16, min (runOf z l + 1) 7 - 4, 2⟩ = acc ++ List.replicate (min (runOf z l + 1) 7) z := by
        unfold ptSay
        simp only
        rw [if_pos trivial]
        have e3 : (acc ++ [z]).getD ((acc ++ [z]).length - 1) 0 = z := by simp
        rw [e3, List.append_assoc, show ([z] : List Int) = List.replicate 1 z from rfl, List.replicate_append_replicate, show 1 + (3 + (min (runOf z l + 1) 7 - 4)) = min (runOf z l + 1) 7 by omega]
      refine ⟨⟨.inl ⟨by simp only; omega, rfl, rfl⟩, ?_, ?_⟩, ?_⟩
      · rw [e1]; exact .inr (.inl ⟨rfl, rfl, by simp only; omega, by simp⟩)
      · rw [e1, e]; exact ih.1
      · show ptsSay (ptSay (ptSay acc _) _) _ = _
        rw [e1, e, ih.2, List.append_assoc, ← same_head (by omega)]
    · have ih := runs_say f l (acc ++ [z]) (by omega) (fun y hy => hz y (List.mem_cons_of_mem _ hy))
      refine ⟨⟨.inl ⟨by simp only; omega, rfl, rfl⟩, by rw [e1]; exact ih.1⟩, ?_⟩
      show ptsSay (ptSay acc _) _ = _
      rw [e1, ih.2, List.append_assoc]
      rfl
end Go.Proofs.YtlhaehefhhcgaaaDoor
namespace Go.Proofs.YtlhaehefhhcgaaaDoor
set_option linter.unusedVariables false

def packB (bt : List Int) : List Int := (List.range ((bt.length + 7) / 8)).map fun i => (numOf ((bt.drop (8 * i)).take 8) : Int)
theorem packB_len (bt : List Int) : (packB bt).length = (bt.length + 7) / 8 := by simp [packB]
theorem leNum_inj : ∀ {a b : List Int}, Bytes a → Bytes b → a.length = b.length → leNum a = leNum b → a = b
  | [], [], _, _, _, _ => rfl
  | [], _ :: _, _, _, h, _ => by simp at h
  | _ :: _, [], _, _, h, _ => by simp at h
  | x :: a, y :: b, ha, hb, hl, hn => by
    have hx := ha x List.mem_cons_self
    have hy := hb y List.mem_cons_self
    simp only [leNum] at hn
    have e1 : x = y := by omega
    have e2 : a = b := leNum_inj (fun z hz => ha z (List.mem_cons_of_mem _ hz)) (fun z hz => hb z (List.mem_cons_of_mem _ hz)) (by simpa using hl) (by omega)
    rw [e1, e2]
/-- The bytes of bits are just one row. -/
theorem pack_is {bs bt : List Int} (hB : Bytes bs) (h01 : Bit01 bt) (hl : bs.length = (bt.length + 7) / 8) (hn : leNum bs = numOf bt) : bs = packB bt := by
  have hpad := bitsOf_pad hB h01 (by omega) hn
  apply List.ext_getElem
  · rw [packB_len, hl]
  · intro i h1 h2
    have hb := hB bs[i] (List.getElem_mem _)
    have h3 : numOf (((bitsOf bs).drop (8 * i)).take 8) = bs[i].toNat := by
      rw [← bitsAt_num hB, bits_cut bs (8 * i) 8 hB, show 8 * i / 8 = i by omega, show (8 * i + 8 + 7) / 8 - i = 1 by omega, show 8 * i % 8 = 0 by omega, List.drop_eq_getElem_cons h1]
      simp only [List.take_succ_cons, List.take_zero, leNum]
      omega
    have h4 : numOf (((bitsOf bs).drop (8 * i)).take 8) = numOf ((bt.drop (8 * i)).take 8) := by
      rw [hpad, List.drop_append_of_le_length (by omega)]
      by_cases hc : 8 ≤ (bt.drop (8 * i)).length
      · rw [List.take_append_of_le_length hc]
      · rw [List.take_append, numOf_append, List.take_replicate, numOf_zeros]
        simp
    simp only [packB, List.getElem_map, List.getElem_range]
    omega
theorem bits_pack {bs bt : List Int} (hB : Bytes bs) (h01 : Bit01 bt) (hl : bs.length = (bt.length + 7) / 8) (hn : leNum bs = numOf bt) : bitsOf bs = bt ++ List.replicate (8 * bs.length - bt.length) 0 := bitsOf_pad hB h01 (by omega) hn
end Go.Proofs.YtlhaehefhhcgaaaDoor
namespace Go.Proofs.YtlhaehefhhcgaaaDoor
set_option linter.unusedVariables false

section
variable (n : Nat) (c : Int)
theorem rep_get {i : Nat} (h : i < n) : (List.replicate n c).getD i 0 = c := by
  rw [List.getD_eq_getElem?_getD, List.getElem?_replicate, if_pos h]; rfl
theorem rep_prev {at' : Nat} (h1 : 1 ≤ at') (h3 : at' + 3 ≤ n) : prevA (List.replicate n c) at' = (at' : Int) - 1 := by
  obtain ⟨j, rfl⟩ : ∃ j, at' = j + 1 := ⟨at' - 1, by omega⟩
  unfold prevA prevGo
  have : same3 (List.replicate n c) j (j + 1) = true := by
    unfold same3
    repeat rw [rep_get n c (by omega)]
    simp
  rw [if_pos this]
  omega
theorem rep_ml {i at' : Nat} (hi : i < at') : ∀ f k, mlGo (List.replicate n c) i at' f k = if at' + k ≤ n then min (k + f) (n - at') else k
  | 0, k => by
    unfold mlGo
    split <;> omega
  | f + 1, k => by
    unfold mlGo
    rw [List.length_replicate]
    by_cases hk : at' + k < n
    · rw [if_pos ⟨hk, by rw [rep_get n c (by omega), rep_get n c hk]⟩, rep_ml hi f (k + 1), if_pos (by omega), if_pos (by omega)]
      congr 1
      omega
    · rw [if_neg (fun h => hk h.1)]
      split <;> omega
theorem rep_match {i at' : Nat} (hi : i < at') (h : at' ≤ n) : matchL (List.replicate n c) i at' = min 258 (n - at') := by
  unfold matchL
  rw [rep_ml n c hi, if_pos (by omega), Nat.zero_add]
theorem rep_stay {at' : Nat} (h3 : at' + 3 ≤ n) : ∀ (f : Nat) (from' : Int), from' < at' → bestGo (List.replicate n c) at' f from' ⟨0, min 258 (n - at'), 1⟩ = ⟨0, min 258 (n - at'), 1⟩
  | 0, _, _ => rfl
  | f + 1, from', h => by
    unfold bestGo
    split
    · rename_i hc
      have hm := rep_match n c (i := from'.toNat) (at' := at') (by omega) (by omega)
      have hp := prevA_lt (List.replicate n c) from'.toNat
      rw [hm, if_neg (by simp)]
      exact rep_stay h3 f _ (by omega)
    · rfl
theorem rep_best {at' : Nat} (h1 : 1 ≤ at') (h3 : at' + 3 ≤ n) : bestP (List.replicate n c) at' = ⟨0, min 258 (n - at'), 1⟩ := by
  unfold bestP
  rw [List.length_replicate, if_pos h3, rep_prev n c h1 h3]
  unfold bestGo
  have hm := rep_match n c (i := ((at' : Int) - 1).toNat) (at' := at') (by omega) (by omega)
  have hp := prevA_lt (List.replicate n c) ((at' : Int) - 1).toNat
  rw [if_pos (by omega), hm, if_pos (by simp only; omega), show at' - ((at' : Int) - 1).toNat = 1 by omega]
  exact rep_stay n c h3 23 _ (by omega)
theorem rep_lit {at' : Nat} (h : at' = 0 ∨ n < at' + 3) : (bestP (List.replicate n c) at').n = 0 ∧ (bestP (List.replicate n c) at').b = ((List.replicate n c).getD at' 0).toNat := by
  unfold bestP
  rw [List.length_replicate]
  split
  · rename_i h3
    rcases h with rfl | h
    · have e : prevA (List.replicate n c) 0 = -1 := rfl
      rw [e]
      unfold bestGo
      rw [if_neg (by omega)]
      exact ⟨rfl, rfl⟩
    · omega
  · exact ⟨rfl, rfl⟩
end
/-- The bits of pieces. -/
def fixLen (l : List Pc) : Nat := (l.flatMap (pcB fixedL fixedD)).length
theorem fixLen_cons (p : Pc) (l : List Pc) : fixLen (p :: l) = (pcB fixedL fixedD p).length + fixLen l := by simp [fixLen]
set_option maxRecDepth 100000 in
theorem fixL_le : ∀ s, s < 288 → (fixedL.getD s 0).toNat ≤ 9 := by decide +kernel
set_option maxRecDepth 100000 in
theorem fixL_len : ∀ k, k < 29 → (fixedL.getD (257 + k) 0).toNat ≤ 8 := by decide +kernel
theorem lbits_le : ∀ k, k < 29 → (lbits.getD k 0).toNat ≤ 5 := by decide
theorem lit_cost {p : Pc} (hn : p.n = 0) (hb : p.b < 256) : (pcB fixedL fixedD p).length ≤ 9 := by
  unfold pcB litB
  rw [if_pos hn, codeBits_len]
  exact fixL_le p.b (by omega)
theorem match_cost {m : Nat} (h3 : 3 ≤ m) : (pcB fixedL fixedD ⟨0, m, 1⟩).length ≤ 18 := by
  have hd : distK 1 = 0 := rfl
  have hk := lenK_le m
  have h1 := fixL_len (lenK m) (by omega)
  have h2 := lbits_le (lenK m) (by omega)
  have h4 : (fixedD.getD 0 0).toNat = 5 := rfl
  have h5 : (dbits.getD 0 0).toNat = 0 := rfl
  unfold pcB litB
  simp only
  rw [if_neg (by omega), hd]
  simp only [List.length_append, codeBits_len, bitsL_len]
  omega
theorem match_whole : (pcB fixedL fixedD ⟨0, 258, 1⟩).length = 13 := by kernel_rfl
theorem rep_cost (n : Nat) {c : Int} (hc : 0 ≤ c ∧ c < 256) : ∀ (f at' : Nat), 1 ≤ at' → fixLen (parseGo (List.replicate n c) f at') ≤ 13 * ((n - at') / 258) + 18
  | 0, at', _ => by simp [parseGo, fixLen]
  | f + 1, at', h1 => by
    unfold parseGo
    rw [List.length_replicate]
    split
    · rename_i hlt
      by_cases h3 : at' + 3 ≤ n
      · rw [rep_best n c h1 h3, fixLen_cons]
        simp only
        by_cases hw : 258 ≤ n - at'
        · have ih := rep_cost n hc f (at' + max (min 258 (n - at')) 1) (by omega)
          rw [Nat.min_eq_left hw] at ih ⊢
          rw [match_whole]
          have e : at' + max 258 1 = at' + 258 := rfl
          rw [e] at ih ⊢
          have hd : (n - at') / 258 = (n - (at' + 258)) / 258 + 1 := by omega
          omega
        · rw [Nat.min_eq_right (by omega)]
          have hm := match_cost (m := n - at') (by omega)
          have he : fixLen (parseGo (List.replicate n c) f (at' + max (n - at') 1)) = 0 := by
            have : at' + max (n - at') 1 = n := by omega
            rw [this]
            cases f with
            | zero => rfl
            | succ f => unfold parseGo; rw [List.length_replicate, if_neg (by omega)]; rfl
          omega
      · have hl := rep_lit n c (at' := at') (.inr (by omega))
        rw [fixLen_cons, hl.1]
        have hb : (bestP (List.replicate n c) at').b < 256 := by
          rw [hl.2, rep_get n c hlt]; omega
        have hcost := lit_cost hl.1 hb
        show _ + fixLen (parseGo (List.replicate n c) f (at' + 1)) ≤ _
        cases f with
        | zero =>
          have : fixLen (parseGo (List.replicate n c) 0 (at' + 1)) = 0 := rfl
          omega
        | succ f =>
          unfold parseGo
          rw [List.length_replicate]
          split
          · rename_i hlt2
            have hl2 := rep_lit n c (at' := at' + 1) (.inr (by omega))
            rw [fixLen_cons, hl2.1]
            have hb2 : (bestP (List.replicate n c) (at' + 1)).b < 256 := by
              rw [hl2.2, rep_get n c hlt2]; omega
            have hcost2 := lit_cost hl2.1 hb2
            have he : fixLen (parseGo (List.replicate n c) f (at' + 1 + max 0 1)) = 0 := by
              have : at' + 1 + max 0 1 = n := by simp only [Nat.zero_max]; omega
              rw [this]
              cases f with
              | zero => rfl
              | succ f => unfold parseGo; rw [List.length_replicate, if_neg (by omega)]; rfl
            omega
          · show _ + 0 ≤ _
            omega
    · simp [fixLen]
/-- Equal bytes, by the code that all know: few bits. -/
theorem rep_fixed (n : Nat) {c : Int} (hc : 0 ≤ c ∧ c < 256) : (bitsL 3 3 ++ pcsB fixedL fixedD (parseP (List.replicate n c))).length ≤ 37 + 13 * (n / 258) := by
  have h256 : (litB fixedL 256).length = 7 := by kernel_rfl
  rw [List.length_append, bitsL_len]
  unfold pcsB
  rw [List.length_append, h256]
  show 3 + (fixLen (parseP (List.replicate n c)) + 7) ≤ _
  unfold parseP
  rw [List.length_replicate]
  cases n with
  | zero => simp [parseGo, fixLen]
  | succ n =>
    unfold parseGo
    rw [List.length_replicate, if_pos (by omega)]
    have hl := rep_lit (n + 1) c (at' := 0) (.inl rfl)
    rw [fixLen_cons, hl.1]
    have hb : (bestP (List.replicate (n + 1) c) 0).b < 256 := by
      rw [hl.2, rep_get (n + 1) c (by omega)]; omega
    have hcost := lit_cost hl.1 hb
    have h := rep_cost (n + 1) hc n (0 + max 0 1) (by simp)
    have e : (n + 1 - (0 + max 0 1)) / 258 ≤ (n + 1) / 258 := Nat.div_le_div_right (by simp)
    omega
end Go.Proofs.YtlhaehefhhcgaaaDoor
namespace Go.Proofs.YtlhaehefhhcgaaaDoor
set_option linter.unusedVariables false

theorem numR_more {bt : List Int} {p n a q : Nat} (m : List Int) (h : numR bt p n = .ok a q) : numR (bt ++ m) p n = .ok a q := by
  obtain ⟨h1, h2, h3⟩ := numR_ok h
  unfold numR
  rw [if_pos (by rw [List.length_append]; omega), List.drop_append_of_le_length (by omega), List.take_append_of_le_length (by rw [List.length_drop]; omega), ← h3, ← h1]
theorem codeB_more (a m : List Int) : ∀ l, l ≤ a.length → codeB (a ++ m) l = codeB a l
  | 0, _ => rfl
  | l + 1, h => by
    simp only [codeB]
    rw [codeB_more a m l (by omega)]
    congr 1
    simp only [List.getD_eq_getElem?_getD]
    rw [List.getElem?_append_left (by omega)]
theorem nextGo_more {zs a : List Int} (m : List Int) : ∀ (f l : Nat) (s : Int) (k : Nat), nextGo zs a f l = (some s, k) → nextGo zs (a ++ m) f l = (some s, k)
  | 0, l, s, k, h => by simp [nextGo] at h
  | f + 1, l, s, k, h => by
    simp only [nextGo] at h ⊢
    split at h
    · rename_i hl
      have e : codeB (a ++ m) (l + 1) = codeB a (l + 1) := codeB_more a m (l + 1) (by omega)
      have e1 : hit zs (a ++ m) (l + 1) = hit zs a (l + 1) := by unfold hit; rw [e]
      have e2 : symAt zs (a ++ m) (l + 1) = symAt zs a (l + 1) := by unfold symAt; rw [e]
      rw [if_pos (by rw [List.length_append]; omega), e1, e2]
      split at h
      · rename_i hh
        rw [if_pos hh]
        exact h
      · rename_i hh
        rw [if_neg hh]
        exact nextGo_more m f (l + 1) s k h
    · simp at h
theorem symR_more {bt zs : List Int} {p a q : Nat} (m : List Int) (h : symR bt zs p = .ok a q) : symR (bt ++ m) zs p = .ok a q := by
  have hl := symR_lt h
  unfold symR at h ⊢
  split at h
  · rename_i s k hn
    rw [List.drop_append_of_le_length (by omega)]
    have := nextGo_more m _ _ _ _ hn
    unfold nextOf
    rw [this]
    exact h
  · cases h
theorem bytesR_more {bt : List Int} (m : List Int) (p n : Nat) (h : p + 8 * n ≤ bt.length) : bytesR (bt ++ m) p n = bytesR bt p n := by
  unfold bytesR
  apply List.map_congr_left
  intro i hi
  have hi' : i < n := by simpa using hi
  rw [List.drop_append_of_le_length (by omega), List.take_append_of_le_length (by rw [List.length_drop]; omega)]
theorem storedR_more {bt out a : List Int} {most p q : Nat} (m : List Int) (h : storedR bt most out p = .ok a q) : storedR (bt ++ m) most out p = .ok a q := by
  unfold storedR at h ⊢
  obtain ⟨n, p1, h1, h⟩ := bind_ok h
  obtain ⟨k, p2, h2, h⟩ := bind_ok h
  rw [numR_more m h1]
  simp only [Res.bind]
  rw [numR_more m h2]
  simp only
  split at h
  · cases h
  rename_i hc
  rw [if_neg (by rw [List.length_append]; omega), bytesR_more m p2 n (by omega)]
  exact h
theorem matchR_more {bt ds out a : List Int} {most v p q : Nat} (m : List Int) (h : matchR bt most ds out v p = .ok a q) : matchR (bt ++ m) most ds out v p = .ok a q := by
  unfold matchR at h ⊢
  split at h
  · cases h
  rename_i hv
  rw [if_neg hv]
  obtain ⟨n, p1, h1, h⟩ := bind_ok h
  obtain ⟨k, p2, h2, h⟩ := bind_ok h
  rw [numR_more m h1]
  simp only [Res.bind]
  rw [symR_more m h2]
  simp only
  split at h
  · cases h
  rename_i hk
  rw [if_neg hk]
  obtain ⟨y, p3, h3, h⟩ := bind_ok h
  rw [numR_more m h3]
  exact h
theorem symsR_more {bt zs ds : List Int} {most : Nat} (m : List Int) : ∀ (f g : Nat) (out : List Int) (p : Nat) (a : List Int) (q : Nat), f ≤ g → symsR bt most zs ds f out p = .ok a q → symsR (bt ++ m) most zs ds g out p = .ok a q
  | 0, _, _, _, _, _, _, h => by cases h
  | f + 1, g, out, p, a, q, hg, h => by
    obtain ⟨g, rfl⟩ : ∃ k, g = k + 1 := ⟨g - 1, by omega⟩
    rw [symsR] at h ⊢
    obtain ⟨s, p1, h1, h⟩ := bind_ok h
    rw [symR_more m h1]
    simp only [Res.bind]
    split at h
    · rename_i hs; rw [if_pos hs]; exact h
    rename_i hs
    rw [if_neg hs]
    split at h
    · rename_i h2
      rw [if_pos h2]
      obtain ⟨o2, p2, h3, h⟩ := bind_ok h
      rw [matchR_more m h3]
      exact symsR_more m f g _ _ _ _ (by omega) h
    rename_i h2
    rw [if_neg h2]
    split at h
    · cases h
    rename_i h3
    rw [if_neg h3]
    exact symsR_more m f g _ _ _ _ (by omega) h
theorem codedR_more {bt zs ds out a : List Int} {most p q : Nat} (m : List Int) (h : codedR bt most zs ds out p = .ok a q) : codedR (bt ++ m) most zs ds out p = .ok a q := by
  unfold codedR at h ⊢
  split at h
  · rename_i hc
    rw [if_pos hc]
    exact symsR_more m _ _ _ _ _ _ (by rw [List.length_append]; omega) h
  · cases h
theorem lensR_more {bt cs : List Int} {n : Nat} (m : List Int) : ∀ (f g : Nat) (acc : List Int) (p : Nat) (a : List Int) (q : Nat), f ≤ g → lensR bt cs n f acc p = .ok a q → lensR (bt ++ m) cs n g acc p = .ok a q
  | 0, _, _, _, _, _, _, h => by cases h
  | f + 1, g, acc, p, a, q, hg, h => by
    obtain ⟨g, rfl⟩ : ∃ k, g = k + 1 := ⟨g - 1, by omega⟩
    rw [lensR] at h ⊢
    split at h
    · rename_i hn; rw [if_pos hn]; exact h
    rename_i hn
    rw [if_neg hn]
    obtain ⟨s, p1, h1, h⟩ := bind_ok h
    rw [symR_more m h1]
    simp only [Res.bind]
    obtain ⟨vk, p2, h2, h⟩ := bind_ok h
    have e : (if s = 16 then (if acc.length = 0 then .bad false else (numR (bt ++ m) p1 2).bind fun x p => .ok (acc.getD (acc.length - 1) 0, 3 + x) p)
       else if s = 17 then (numR (bt ++ m) p1 3).bind fun x p => .ok (0, 3 + x) p
       else if s = 18 then (numR (bt ++ m) p1 7).bind fun x p => .ok (0, 11 + x) p
       else .ok ((s : Int), 1) p1 : Res (Int × Nat)) = .ok vk p2 := by
      split at h2
      · rename_i hs
        rw [if_pos hs]
        split at h2
        · cases h2
        rename_i ha
        rw [if_neg ha]
        obtain ⟨x, p3, h3, h2⟩ := bind_ok h2
        rw [numR_more m h3]
        exact h2
      rename_i hs
      rw [if_neg hs]
      split at h2
      · rename_i hs
        rw [if_pos hs]
        obtain ⟨x, p3, h3, h2⟩ := bind_ok h2
        rw [numR_more m h3]
        exact h2
      rename_i hs
      rw [if_neg hs]
      split at h2
      · rename_i hs
        rw [if_pos hs]
        obtain ⟨x, p3, h3, h2⟩ := bind_ok h2
        rw [numR_more m h3]
        exact h2
      rename_i hs
      rw [if_neg hs]
      exact h2
    simp only [Res.bind] at e
    rw [e]
    simp only
    split at h
    · cases h
    rename_i hc
    rw [if_neg hc]
    exact lensR_more m f g _ _ _ _ (by omega) h
theorem shortsR_more {bt : List Int} (m : List Int) : ∀ (c p : Nat) (a : List Int) (q : Nat), shortsR bt c p = .ok a q → shortsR (bt ++ m) c p = .ok a q
  | 0, _, _, _, h => h
  | c + 1, p, a, q, h => by
    rw [shortsR] at h ⊢
    obtain ⟨s, p1, h1, h⟩ := bind_ok h
    obtain ⟨x, p2, h2, h⟩ := bind_ok h
    rw [shortsR_more m c _ _ _ h1]
    simp only [Res.bind]
    rw [numR_more m h2]
    exact h
theorem dynamicR_more {bt out a : List Int} {most p q : Nat} (m : List Int) (h : dynamicR bt most out p = .ok a q) : dynamicR (bt ++ m) most out p = .ok a q := by
  unfold dynamicR at h ⊢
  obtain ⟨n, p1, h1, h⟩ := bind_ok h
  obtain ⟨k, p2, h2, h⟩ := bind_ok h
  obtain ⟨c, p3, h3, h⟩ := bind_ok h
  rw [numR_more m h1]
  simp only [Res.bind]
  rw [numR_more m h2]
  simp only
  rw [numR_more m h3]
  simp only
  split at h
  · cases h
  rename_i hb
  rw [if_neg hb]
  obtain ⟨sh, p4, h4, h⟩ := bind_ok h
  rw [shortsR_more m _ _ _ _ h4]
  simp only
  split at h
  · rename_i hc
    rw [if_pos hc]
    obtain ⟨all, p5, h5, h⟩ := bind_ok h
    rw [lensR_more m _ _ _ _ _ _ (show bt.length + 1 ≤ (bt ++ m).length + 1 by rw [List.length_append]; omega) h5]
    simp only
    split at h
    · cases h
    rename_i ha
    rw [if_neg ha]
    exact codedR_more m h
  · cases h
theorem blocksR_more {bt : List Int} {most : Nat} (m : List Int) : ∀ (f g : Nat) (out : List Int) (p : Nat) (a : List Int) (q : Nat), f ≤ g → blocksR bt most f out p = .ok a q → blocksR (bt ++ m) most g out p = .ok a q
  | 0, _, _, _, _, _, _, h => by cases h
  | f + 1, g, out, p, a, q, hg, h => by
    obtain ⟨g, rfl⟩ : ∃ k, g = k + 1 := ⟨g - 1, by omega⟩
    rw [blocksR] at h ⊢
    obtain ⟨last, p1, h1, h⟩ := bind_ok h
    obtain ⟨kind, p2, h2, h⟩ := bind_ok h
    obtain ⟨o2, p3, h3, h⟩ := bind_ok h
    rw [numR_more m h1]
    simp only [Res.bind]
    rw [numR_more m h2]
    simp only
    have e : (if kind = 0 then storedR (bt ++ m) most out p2 else if kind = 1 then codedR (bt ++ m) most fixedL fixedD out p2 else if kind = 2 then dynamicR (bt ++ m) most out p2 else .bad false : Res (List Int)) = .ok o2 p3 := by
      generalize fixedL = FL at *
      generalize fixedD = FD at *
      by_cases h0 : kind = 0
      · rw [if_pos h0] at h3 ⊢; exact storedR_more m h3
      rw [if_neg h0] at h3 ⊢
      by_cases h1 : kind = 1
      · rw [if_pos h1] at h3 ⊢; exact codedR_more m h3
      rw [if_neg h1] at h3 ⊢
      by_cases h2 : kind = 2
      · rw [if_pos h2] at h3 ⊢; exact dynamicR_more m h3
      rw [if_neg h2] at h3
      cases h3
    rw [e]
    simp only
    split at h
    · rename_i hl
      rw [if_pos hl]
      exact blocksR_more m f g _ _ _ _ (by omega) h
    · rename_i hl
      rw [if_neg hl]
      exact h
theorem inflateR_more {bt a : List Int} {most p : Nat} (m : List Int) (h : inflateR bt most = .ok a p) : inflateR (bt ++ m) most = .ok a p :=
  blocksR_more m _ _ _ _ _ _ (by rw [List.length_append]; omega) h
end Go.Proofs.YtlhaehefhhcgaaaDoor
namespace Go.Proofs.YtlhaehefhhcgaaaDoor
set_option linter.unusedVariables false

def symOf (q : Pc) : Nat := if q.n = 0 then q.b else 257 + lenK q.n
def freqL (l : List Pc) : List Int := (List.range 286).map fun s : Nat => ((l.filter fun q => symOf q == s).length : Int) + (if s = 256 then 1 else 0)
def freqD (l : List Pc) : List Int := (List.range 30).map fun s : Nat => ((l.filter fun q => !(q.n == 0) && distK q.d == s).length : Int)
def oftenP (row : List Pt) : List Int := (List.range 19).map fun s : Nat => ((row.filter fun q => q.s == s).length : Int)
def fitA (l : List Pc) : List Int := lengthsOf (freqL l) 15
def fitD (l : List Pc) : List Int := lengthsOf (freqD l) 15
def fitRow (l : List Pc) : List Pt := runsP (trimP (fitA l) 257 ++ trimP (fitD l) 1)
def fitC (l : List Pc) : List Int := lengthsOf (oftenP (fitRow l)) 7
def fitS (l : List Pc) : List Int := trimP (orderL.map fun o => (fitC l).getD o.toNat 0) 4
def fitB (l : List Pc) : List Int :=
  bitsL 5 3 ++ (bitsL ((trimP (fitA l) 257).length - 257) 5 ++ (bitsL ((trimP (fitD l) 1).length - 1) 5 ++ (bitsL ((fitS l).length - 4) 4 ++ ((fitS l).flatMap (fun z => bitsL z.toNat 3) ++ (ptsB (fitC l) (fitRow l) ++ pcsB (fitA l) (fitD l) l)))))
def fixB (l : List Pc) : List Int := bitsL 3 3 ++ pcsB fixedL fixedD l
def bestB (b : List Int) : List Int :=
  let p := packB (plainB b)
  let f := packB (fixB (parseP b))
  let g := packB (fitB (parseP b))
  let q := if f.length < p.length then f else p
  if g.length < q.length then g else q

theorem freqL_get (l : List Pc) {s : Nat} (h : s < 286) : (freqL l).getD s 0 = ((l.filter fun q => symOf q == s).length : Int) + (if s = 256 then 1 else 0) := by simp [freqL, h]
theorem freqD_get (l : List Pc) {s : Nat} (h : s < 30) : (freqD l).getD s 0 = ((l.filter fun q => !(q.n == 0) && distK q.d == s).length : Int) := by simp [freqD, h]
theorem oftenP_get (row : List Pt) {s : Nat} (h : s < 19) : (oftenP row).getD s 0 = ((row.filter fun q => q.s == s).length : Int) := by simp [oftenP, h]
theorem fair_map {N : Nat} {f : Nat → Int} (h : ∀ s, s < N → 0 ≤ f s ∧ f s ≤ 1048576) : ((List.range N).map f).all fairF = true := by
  rw [List.all_eq_true]
  intro z hz
  obtain ⟨s, hs, rfl⟩ := List.mem_map.1 hz
  have := h s (by simpa using hs)
  unfold fairF
  simpa using this
theorem ok_of {l : List Int} {most : Int} (hl : l.length ≤ 288) (h1 : 1 ≤ most) (h15 : most ≤ 15) (hf : l.all fairF = true) (hp : l.length ≤ 2 ^ most.toNat) : lengthsOk l most = true := by
  have := (ones_facts l hf).2.2.2
  unfold lengthsOk
  simp only [Bool.and_eq_true, decide_eq_true_eq]
  exact ⟨⟨⟨⟨hl, h1⟩, h15⟩, hf⟩, by omega⟩
theorem okL {l : List Pc} (h : l.length ≤ 65536) : lengthsOk (freqL l) 15 = true := by
  refine ok_of (by simp [freqL]) (by omega) (by omega) (fair_map fun s hs => ?_) (by simp [freqL])
  have := List.length_filter_le (fun q => symOf q == s) l
  split <;> omega
theorem okD {l : List Pc} (h : l.length ≤ 65536) : lengthsOk (freqD l) 15 = true := by
  refine ok_of (by simp [freqD]) (by omega) (by omega) (fair_map fun s hs => ?_) (by simp [freqD])
  have := List.length_filter_le (fun q : Pc => !(q.n == 0) && distK q.d == s) l
  omega
theorem okO {row : List Pt} (h : row.length ≤ 65536) : lengthsOk (oftenP row) 7 = true := by
  refine ok_of (by simp [oftenP]) (by omega) (by omega) (fair_map fun s hs => ?_) (by simp [oftenP])
  have := List.length_filter_le (fun q : Pt => q.s == s) row
  omega
/-- A symbol that is used has a code. -/
theorem has_of {l : List Int} {most : Int} (h : lengthsOk l most = true) {s : Nat} (hs : s < l.length) (hp : l.getD s 0 ≠ 0) : HasC (lengthsOf l most.toNat) s := by
  obtain ⟨h1, h2, h3⟩ := lens_each h hs
  refine ⟨by rw [lens_len]; exact hs, ?_⟩
  have : (lengthsOf l most.toNat).getD s 0 ≠ 0 := fun e => hp (h3.1 e)
  omega
theorem counts_of {l : List Int} {most : Int} (h : lengthsOk l most = true) : countsOk (lengthsOf l most.toNat) = true := by
  rw [← makes_counts]
  exact lens_makes h
theorem mem_bd {l : List Int} {most : Int} (h : lengthsOk l most = true) : ∀ z ∈ lengthsOf l most.toNat, 0 ≤ z ∧ z ≤ most := fun z hz => by
  obtain ⟨i, hi, rfl⟩ := List.getElem_of_mem hz
  have := lens_each h (s := i) (by rwa [lens_len] at hi)
  rw [List.getD_eq_getElem?_getD, List.getElem?_eq_getElem hi] at this
  exact ⟨this.1, this.2.1⟩
theorem filter_pos {α : Type} {p : α → Bool} {l : List α} {a : α} (ha : a ∈ l) (hp : p a = true) : 0 < (l.filter p).length := List.length_pos_of_mem (List.mem_filter.2 ⟨ha, hp⟩)
theorem runsGo_len : ∀ (f : Nat) (l : List Int), (runsGo f l).length ≤ l.length
  | 0, l => Nat.zero_le _
  | f + 1, [] => Nat.zero_le _
  | f + 1, z :: l => by
    unfold runsGo
    simp only
    split
    · rename_i hc
      have := runsGo_len f ((z :: l).drop (min (runOf z l + 1) 138))
      rw [List.length_drop] at this
      simp only [List.length_cons] at this ⊢
      have := (runOf_is z l).1
      omega
    split
    · have := runsGo_len f ((z :: l).drop (runOf z l + 1))
      rw [List.length_drop] at this
      simp only [List.length_cons] at this ⊢
      have := (runOf_is z l).1
      omega
    split
    · rename_i hc
      have := runsGo_len f ((z :: l).drop (min (runOf z l + 1) 7))
      rw [List.length_drop] at this
      simp only [List.length_cons] at this ⊢
      have := (runOf_is z l).1
      omega
    · have := runsGo_len f l
      simp only [List.length_cons]
      omega
theorem pts_bd : ∀ (l : List Pt) (acc : List Int), PtsOk acc l → ∀ q ∈ l, q.s < 19
  | [], _, _, q, hq => by cases hq
  | p :: l, acc, h, q, hq => by
    rcases List.mem_cons.1 hq with rfl | hq
    · rcases h.1 with h | h | h | h <;> omega
    · exact pts_bd l _ h.2 q hq
theorem pcs_len : ∀ (l : List Pc) (out : List Int), out.length + l.length ≤ (sayAll out l).length
  | [], out => Nat.le_refl _
  | p :: l, out => by
    have h1 := pcs_len l (say1 out p)
    have h2 := say1_len out p
    show _ ≤ (sayAll (say1 out p) l).length
    rw [List.length_cons]
    split at h2 <;> omega
theorem ok_byte : ∀ (l : List Pc) (out : List Int), OkAll out l → ∀ q ∈ l, (q.n = 0 → q.b < 256) ∧ (q.n ≠ 0 → 3 ≤ q.n ∧ q.n ≤ 258)
  | [], _, _, q, hq => by cases hq
  | p :: l, out, h, q, hq => by
    rcases List.mem_cons.1 hq with rfl | hq
    · rcases h.1 with h | h
      · exact ⟨fun _ => h.2.2, fun hn => absurd h.1 hn⟩
      · exact ⟨fun hn => by omega, fun _ => ⟨h.2.1, h.2.2.1⟩⟩
    · exact ok_byte l _ h.2 q hq
theorem lens_facts {fr : List Int} {most : Int} {m N : Nat} (h : lengthsOk fr most = true) (hm : most.toNat = m) (hN : fr.length = N) :
    countsOk (lengthsOf fr m) = true ∧ (lengthsOf fr m).length = N ∧ (∀ z ∈ lengthsOf fr m, 0 ≤ z ∧ z ≤ most) ∧ ∀ s, s < N → fr.getD s 0 ≠ 0 → HasC (lengthsOf fr m) s := by
  subst hm
  subst hN
  exact ⟨counts_of h, lens_len _ _, mem_bd h, fun s hs hp => has_of h hs hp⟩
theorem fitA_facts {l : List Pc} (h : l.length ≤ 65536) : countsOk (fitA l) = true ∧ (fitA l).length = 286 ∧ (∀ z ∈ fitA l, 0 ≤ z ∧ z ≤ 15) ∧ ∀ s, s < 286 → (freqL l).getD s 0 ≠ 0 → HasC (fitA l) s := by
  unfold fitA
  exact lens_facts (okL h) rfl (by simp [freqL])
theorem fitD_facts {l : List Pc} (h : l.length ≤ 65536) : countsOk (fitD l) = true ∧ (fitD l).length = 30 ∧ (∀ z ∈ fitD l, 0 ≤ z ∧ z ≤ 15) ∧ ∀ s, s < 30 → (freqD l).getD s 0 ≠ 0 → HasC (fitD l) s := by
  unfold fitD
  exact lens_facts (okD h) rfl (by simp [freqD])
theorem fitC_facts {l : List Pc} (h : (fitRow l).length ≤ 65536) : countsOk (fitC l) = true ∧ (fitC l).length = 19 ∧ (∀ z ∈ fitC l, 0 ≤ z ∧ z ≤ 7) ∧ ∀ s, s < 19 → (oftenP (fitRow l)).getD s 0 ≠ 0 → HasC (fitC l) s := by
  unfold fitC
  exact lens_facts (okO h) rfl (by simp [oftenP])
/-- A fact that nothing looks into. -/
inductive Hidden (p : Prop) : Prop where
  | mk (h : p) : Hidden p
theorem Hidden.is {p : Prop} : Hidden p → p
  | ⟨h⟩ => h
theorem fitRow_facts {l : List Pc} (h : l.length ≤ 65536) : Hidden (PtsOk [] (fitRow l)) ∧ ptsSay [] (fitRow l) = trimP (fitA l) 257 ++ trimP (fitD l) 1 ∧ (fitRow l).length ≤ 65536 := by
  obtain ⟨_, lA, bA, _⟩ := fitA_facts h
  obtain ⟨_, lD, bD, _⟩ := fitD_facts h
  have tA := trimP_len (l := fitA l) (least := 257) (by omega)
  have tD := trimP_len (l := fitD l) (least := 1) (by omega)
  have mA : ∀ z ∈ trimP (fitA l) 257, 0 ≤ z ∧ z ≤ 15 := fun z hz => bA z (List.mem_of_mem_take hz)
  have mD : ∀ z ∈ trimP (fitD l) 1, 0 ≤ z ∧ z ≤ 15 := fun z hz => bD z (List.mem_of_mem_take hz)
  unfold fitRow runsP
  generalize trimP (fitA l) 257 = x at *
  generalize trimP (fitD l) 1 = y at *
  have hrowb : ∀ z ∈ x ++ y, 0 ≤ z ∧ z < 16 := fun z hz => by
    rcases List.mem_append.1 hz with hz | hz
    · have := mA z hz; omega
    · have := mD z hz; omega
  obtain ⟨h1, h2⟩ := runs_say _ (x ++ y) [] (Nat.le_refl _) hrowb
  have h3 := runsGo_len (x ++ y).length (x ++ y)
  refine ⟨⟨h1⟩, by rw [h2]; rfl, ?_⟩
  rw [List.length_append] at h3 ⊢
  omega
theorem flatMap_same {α β : Type} {f g : α → List β} : ∀ {l : List α}, (∀ x ∈ l, f x = g x) → l.flatMap f = l.flatMap g
  | [], _ => rfl
  | x :: l, h => by
    rw [List.flatMap_cons, List.flatMap_cons, h x List.mem_cons_self, flatMap_same (fun y hy => h y (List.mem_cons_of_mem _ hy))]
/-- The same, of any rows of lengths. -/
theorem fit_core {bt b A D C S : List Int} {row : List Pt} {most k1 k2 k3 : Nat} {l : List Pc} {x y : List Int} (ho : OkAll [] l) (hs : sayAll [] l = b) (hm : b.length ≤ most) (cA : countsOk A = true) (lA : A.length = 286) (hA : ∀ s, s < 286 → (freqL l).getD s 0 ≠ 0 → HasC A s)
    (cD : countsOk D = true) (lD : D.length = 30) (hD : ∀ s, s < 30 → (freqD l).getD s 0 ≠ 0 → HasC D s) (hr1 : PtsOk [] row) (hr2 : ptsSay [] row = x ++ y) (cC : countsOk C = true) (lC : C.length = 19) (bC : ∀ z ∈ C, 0 ≤ z ∧ z ≤ 7) (hC : ∀ s, s < 19 → (oftenP row).getD s 0 ≠ 0 → HasC C s)
    (eA : A = x ++ List.replicate k1 0) (eD : D = y ++ List.replicate k2 0) (tA : 257 ≤ x.length ∧ x.length ≤ 286) (tD : 1 ≤ y.length ∧ y.length ≤ 30) (eS : (orderL.map fun o => C.getD o.toNat 0) = S ++ List.replicate k3 0) (tS : 4 ≤ S.length ∧ S.length ≤ 19)
    (h : At bt 0 (bitsL 5 3 ++ (bitsL (x.length - 257) 5 ++ (bitsL (y.length - 1) 5 ++ (bitsL (S.length - 4) 4 ++ (S.flatMap (fun z => bitsL z.toNat 3) ++ (ptsB C row ++ pcsB A D l))))))) :
    inflateR bt most = .ok b (bitsL 5 3 ++ (bitsL (x.length - 257) 5 ++ (bitsL (y.length - 1) 5 ++ (bitsL (S.length - 4) 4 ++ (S.flatMap (fun z => bitsL z.toNat 3) ++ (ptsB C row ++ pcsB A D l)))))).length := by
  have hpb := pts_bd _ _ hr1
  have getO : ∀ i, i < 19 → (orderL.map fun o => C.getD o.toNat 0).getD i 0 = C.getD (orderL.getD i 0).toNat 0 := fun i hi => by
    have hi' : i < orderL.length := hi
    rw [List.getD_eq_getElem?_getD, List.getElem?_map, List.getElem?_eq_getElem hi', List.getD_eq_getElem?_getD (l := orderL), List.getElem?_eq_getElem hi']
    rfl
  have hSB : S.flatMap (fun z => bitsL z.toNat 3) = shB C S.length := by
    have e : S = (List.range S.length).map fun i => C.getD (orderL.getD i 0).toNat 0 := by
      apply List.ext_getElem
      · simp
      · intro i h1 h2
        have h3 : i < 19 := by omega
        simp only [List.getElem_map, List.getElem_range]
        rw [← getO i h3, eS, get_zeros]
        simp [h1]
    unfold shB
    conv => lhs; rw [e]
    rw [List.flatMap_map]
  have hasA : ∀ s, s < 286 → (freqL l).getD s 0 ≠ 0 → HasC x s := fun s hs hp => by
    have h2 := hA s hs hp
    rw [eA] at h2
    exact hasC_zeros h2
  have hasD : ∀ s, s < 30 → (freqD l).getD s 0 ≠ 0 → HasC y s := fun s hs hp => by
    have h2 := hD s hs hp
    rw [eD] at h2
    exact hasC_zeros h2
  have hend : HasC x 256 := hasA 256 (by omega) (by rw [freqL_get l (by omega), if_pos rfl]; omega)
  have hsym : ∀ q ∈ l, symOf q < 286 ∧ HasC x (symOf q) := fun q hq => by
    have hb := ok_byte l [] ho q hq
    have hlt : symOf q < 286 := by
      unfold symOf
      have := lenK_le q.n
      split
      · have := hb.1 (by assumption); omega
      · omega
    refine ⟨hlt, hasA _ hlt ?_⟩
    rw [freqL_get l hlt]
    have := filter_pos (p := fun x => symOf x == symOf q) hq (by simp)
    split <;> omega
  have hdst : ∀ q ∈ l, q.n ≠ 0 → HasC y (distK q.d) := fun q hq hn => by
    have hlt : distK q.d < 30 := by have := distK_le q.d; omega
    refine hasD _ hlt ?_
    rw [freqD_get l hlt]
    have := filter_pos (p := fun x : Pc => !(x.n == 0) && distK x.d == distK q.d) hq (by simp [hn])
    omega
  have hP : ∀ q ∈ l, HasP x y q := fun q hq => by
    have h1 := (hsym q hq).2
    unfold symOf at h1
    unfold HasP
    split
    · rename_i hn; rwa [if_pos hn] at h1
    · rename_i hn
      rw [if_neg hn] at h1
      exact ⟨h1, hdst q hq hn⟩
  have hPB : pcsB A D l = pcsB x y l := by
    have e1 : ∀ s, s < x.length → litB A s = litB x s := fun s hs => by
      rw [eA]
      exact litB_zeros _ _ hs
    have e2 : ∀ s, s < y.length → litB D s = litB y s := fun s hs => by
      rw [eD]
      exact litB_zeros _ _ hs
    unfold pcsB
    rw [e1 256 hend.1]
    congr 1
    have : ∀ q ∈ l, pcB A D q = pcB x y q := fun q hq => by
      have h1 := hP q hq
      unfold HasP at h1
      unfold pcB
      split
      · rename_i hn; rw [if_pos hn] at h1; exact e1 _ h1.1
      · rename_i hn; rw [if_neg hn] at h1; rw [e1 _ h1.1.1, e2 _ h1.2.1]
    exact flatMap_same this
  rw [hSB, hPB] at h ⊢
  have hx : countsOk x = true := by rw [eA] at cA; exact countsOk_zeros cA
  have hy : countsOk y = true := by rw [eD] at cD; exact countsOk_zeros cD
  have hpc : ∀ q ∈ row, HasC C q.s := fun q hq => by
    have hlt := hpb q hq
    refine hC _ hlt ?_
    rw [oftenP_get _ hlt]
    have := filter_pos (p := fun x : Pt => x.s == q.s) hq (by simp)
    omega
  have h0 : ∀ i, S.length ≤ i → i < 19 → C.getD (orderL.getD i 0).toNat 0 = 0 := fun i h1 h2 => by
    rw [← getO i h2, eS, get_zeros, List.getD_eq_getElem?_getD, List.getElem?_eq_none h1]
    rfl
  have a := h.right
  rw [bitsL_len] at a
  have hd := dyn_say (most := most) (out := []) hx hy cC ⟨tA.1, tA.2⟩ ⟨tD.1, tD.2⟩ tS lC (fun z hz => by have := bC z hz; omega) h0 hr1 hpc hr2 hend ho hP (by rw [hs]; exact hm) a
  rw [hs] at hd
  unfold inflateR
  refine blocks_last (v := 5) (by omega) rfl h ?_
  unfold kindR
  rw [if_neg (by omega), if_neg (by omega), if_pos rfl]
  rw [List.length_append, bitsL_len]
  rw [show 0 + 1 + 2 = 0 + 3 from rfl, hd]
  unfold dynB
  rw [Nat.zero_add]
theorem fit_says {bt b : List Int} {most : Nat} {l : List Pc} (ho : OkAll [] l) (hs : sayAll [] l = b) (h16 : b.length ≤ 65536) (hm : b.length ≤ most) (h : At bt 0 (fitB l)) : inflateR bt most = .ok b (fitB l).length := by
  have hll : l.length ≤ 65536 := by have := pcs_len l []; rw [hs] at this; simp at this; omega
  obtain ⟨cA, lA, bA, hA⟩ := fitA_facts hll
  obtain ⟨cD, lD, bD, hD⟩ := fitD_facts hll
  obtain ⟨hr1, hr2, hrl⟩ := fitRow_facts hll
  obtain ⟨cC, lC, bC, hC⟩ := fitC_facts hrl
  obtain ⟨k1, eA⟩ := trimP_split (fitA l) 257
  obtain ⟨k2, eD⟩ := trimP_split (fitD l) 1
  have tA := trimP_len (l := fitA l) (least := 257) (by rw [lA]; decide)
  have tD := trimP_len (l := fitD l) (least := 1) (by rw [lD]; decide)
  rw [lA] at tA
  rw [lD] at tD
  obtain ⟨k3, eS⟩ := trimP_split (orderL.map fun o => (fitC l).getD o.toNat 0) 4
  have lO : (orderL.map fun o => (fitC l).getD o.toNat 0).length = 19 := by rw [List.length_map]; rfl
  have tS := trimP_len (l := orderL.map fun o => (fitC l).getD o.toNat 0) (least := 4) (by rw [lO]; decide)
  rw [lO] at tS
  unfold fitB fitS at h ⊢
  generalize trimP (orderL.map fun o => (fitC l).getD o.toNat 0) 4 = S at *
  generalize trimP (fitA l) 257 = x at *
  generalize trimP (fitD l) 1 = y at *
  generalize fitA l = A at *
  generalize fitD l = D at *
  generalize fitC l = C at *
  generalize fitRow l = row at *
  exact fit_core ho hs hm cA lA hA cD lD hD hr1.is hr2 cC lC bC hC eA eD tA tD eS tS h
end Go.Proofs.YtlhaehefhhcgaaaDoor
namespace Go.Proofs.YtlhaehefhhcgaaaDoor
set_option linter.unusedVariables false

theorem packB_step {bt : List Int} (h : 0 < bt.length) : packB bt = (numOf (bt.take 8) : Int) :: packB (bt.drop 8) := by
  unfold packB
  have e : (bt.length + 7) / 8 = ((bt.drop 8).length + 7) / 8 + 1 := by rw [List.length_drop]; omega
  rw [e, List.range_succ_eq_map, List.map_cons, List.map_map]
  congr 1
  apply List.map_congr_left
  intro i _
  simp only [Function.comp, List.drop_drop]
  rw [show 8 * (i + 1) = 8 + 8 * i by omega]
theorem pack_facts : ∀ (n : Nat) (bt : List Int), bt.length ≤ n → Bit01 bt → Bytes (packB bt) ∧ leNum (packB bt) = numOf bt
  | 0, bt, hn, _ => by
    have : bt = [] := List.eq_nil_of_length_eq_zero (by omega)
    subst this
    exact ⟨fun z hz => by simp [packB] at hz, rfl⟩
  | n + 1, bt, hn, h01 => by
    rcases Nat.eq_zero_or_pos bt.length with h0 | h0
    · have : bt = [] := List.eq_nil_of_length_eq_zero h0
      subst this
      exact ⟨fun z hz => by simp [packB] at hz, rfl⟩
    · have ih := pack_facts n (bt.drop 8) (by rw [List.length_drop]; omega) (fun x hx => h01 x (List.mem_of_mem_drop hx))
      have h8 : Bit01 (bt.take 8) := fun x hx => h01 x (List.mem_of_mem_take hx)
      have hlt := numOf_lt h8
      have hle : (bt.take 8).length ≤ 8 := by rw [List.length_take]; omega
      have hp : 2 ^ (bt.take 8).length ≤ 2 ^ 8 := Nat.pow_le_pow_right (by omega) hle
      rw [packB_step h0]
      refine ⟨fun z hz => ?_, ?_⟩
      · rcases List.mem_cons.1 hz with rfl | hz
        · omega
        · exact ih.1 z hz
      · simp only [leNum]
        rw [ih.2]
        conv => rhs; rw [← List.take_append_drop 8 bt, numOf_append]
        by_cases hc : 8 ≤ bt.length
        · have e : (bt.take 8).length = 8 := by rw [List.length_take]; omega
          rw [e]
          omega
        · have e : bt.drop 8 = [] := List.drop_eq_nil_of_le (by omega)
          rw [e]
          simp [numOf]
theorem bits_packB {bt : List Int} (h01 : Bit01 bt) : bitsOf (packB bt) = bt ++ List.replicate (8 * (packB bt).length - bt.length) 0 := by
  obtain ⟨h1, h2⟩ := pack_facts _ bt (Nat.le_refl _) h01
  exact bitsOf_pad h1 h01 (by rw [packB_len]; omega) h2
theorem litB_01 (zs : List Int) (s : Nat) : Bit01 (litB zs s) := codeBits_01 _ _
theorem flat_01 {α : Type} {f : α → List Int} {l : List α} (h : ∀ x ∈ l, Bit01 (f x)) : Bit01 (l.flatMap f) := fun z hz => by
  obtain ⟨x, hx, hz⟩ := List.mem_flatMap.1 hz
  exact h x hx z hz
theorem pcB_01 (zs ds : List Int) (p : Pc) : Bit01 (pcB zs ds p) := by
  unfold pcB
  split
  · exact litB_01 _ _
  · exact (litB_01 _ _).append ((bitsL_01 _ _).append ((litB_01 _ _).append (bitsL_01 _ _)))
theorem pcsB_01 (zs ds : List Int) (l : List Pc) : Bit01 (pcsB zs ds l) := (flat_01 fun x _ => pcB_01 _ _ _).append (litB_01 _ _)
theorem fixB_01 (l : List Pc) : Bit01 (fixB l) := (bitsL_01 _ _).append (pcsB_01 _ _ _)
theorem fitB_01 (l : List Pc) : Bit01 (fitB l) :=
  (bitsL_01 _ _).append ((bitsL_01 _ _).append ((bitsL_01 _ _).append ((bitsL_01 _ _).append ((flat_01 fun x _ => bitsL_01 _ _).append ((flat_01 fun x _ => (litB_01 _ _).append (bitsL_01 _ _)).append (pcsB_01 _ _ _))))))
theorem stoB_01 (k : Nat) (c : List Int) : Bit01 (stoB k c) := (bitsL_01 _ _).append ((bit01_zeros 5).append ((bitsL_01 _ _).append ((bitsL_01 _ _).append (flat_01 fun x _ => bitsL_01 _ _))))
theorem plainB_01 (b : List Int) : Bit01 (plainB b) := by
  unfold plainB
  split
  · exact stoB_01 _ _
  · exact (stoB_01 _ _).append (stoB_01 _ _)
/-- A row of bytes that is read as b, whatever stands behind; all of it is wanted. -/
def Reads (s b : List Int) : Prop := Bytes s ∧ ∃ p, (p + 7) / 8 = s.length ∧ ∀ more most, b.length ≤ most → inflateR (bitsOf s ++ more) most = .ok b p
theorem reads_of {bt b : List Int} (h01 : Bit01 bt) (h : ∀ bt' most, b.length ≤ most → At bt' 0 bt → inflateR bt' most = .ok b bt.length) : Reads (packB bt) b := by
  refine ⟨(pack_facts _ bt (Nat.le_refl _) h01).1, bt.length, (packB_len bt).symm, fun more most hm => h (bitsOf (packB bt) ++ more) most hm ⟨Nat.zero_le _, List.replicate (8 * (packB bt).length - bt.length) 0 ++ more, ?_⟩⟩
  rw [bits_packB h01, List.drop_zero, List.append_assoc]
set_option maxRecDepth 100000 in
theorem fixL_pos : ∀ s, s < 288 → 0 < fixedL.getD s 0 := by decide +kernel
theorem fixD_pos : ∀ s, s < 32 → 0 < fixedD.getD s 0 := by decide +kernel
theorem fix_has {l : List Pc} (ho : OkAll [] l) : ∀ q ∈ l, HasP fixedL fixedD q := fun q hq => by
  have hb := ok_byte l [] ho q hq
  have h1 := lenK_le q.n
  have h2 := distK_le q.d
  have e1 : fixedL.length = 288 := by kernel_rfl
  have e2 : fixedD.length = 32 := by kernel_rfl
  have hL : ∀ s, s < 288 → HasC fixedL s := fun s hs => ⟨by rw [e1]; exact hs, fixL_pos s hs⟩
  have hD : ∀ s, s < 32 → HasC fixedD s := fun s hs => ⟨by rw [e2]; exact hs, fixD_pos s hs⟩
  generalize fixedL = FL at *
  generalize fixedD = FD at *
  unfold HasP
  split
  · exact hL _ (by have := hb.1 (by assumption); omega)
  · exact ⟨hL _ (by omega), hD _ (by omega)⟩
theorem best_reads {b : List Int} (hB : ∀ z ∈ b, 0 ≤ z ∧ z < 256) (h16 : b.length ≤ 65536) : Reads (packB (plainB b)) b ∧ Reads (packB (fixB (parseP b))) b ∧ Reads (packB (fitB (parseP b))) b := by
  obtain ⟨ho, hs⟩ := parse_says hB
  refine ⟨reads_of (plainB_01 b) fun bt' most hm h => plain_says hB h16 hm h, reads_of (fixB_01 _) fun bt' most hm h => ?_, reads_of (fitB_01 _) fun bt' most hm h => fit_says ho hs h16 hm h⟩
  have := fixed_says ho hs (fix_has ho) hm h
  unfold fixB
  rw [List.length_append, bitsL_len]
  exact this
/-- The shortest of three. -/
theorem bestB_facts {b : List Int} (hB : ∀ z ∈ b, 0 ≤ z ∧ z < 256) (h16 : b.length ≤ 65536) : Reads (bestB b) b ∧ (bestB b).length ≤ b.length + 5 * (b.length / 65536 + 1) ∧ (bestB b).length ≤ ((fixB (parseP b)).length + 7) / 8 := by
  obtain ⟨h1, h2, h3⟩ := best_reads hB h16
  have l1 : (packB (plainB b)).length = b.length + 5 * (b.length / 65536 + 1) := by rw [packB_len, plainB_len h16]; omega
  have l2 := packB_len (fixB (parseP b))
  unfold bestB
  simp only
  generalize packB (plainB b) = P at *
  generalize packB (fixB (parseP b)) = F at *
  generalize packB (fitB (parseP b)) = G at *
  by_cases c1 : F.length < P.length
  · rw [if_pos c1]
    by_cases c2 : G.length < F.length
    · rw [if_pos c2]; exact ⟨h3, by omega, by omega⟩
    · rw [if_neg c2]; exact ⟨h2, by omega, by omega⟩
  · rw [if_neg c1]
    by_cases c2 : G.length < P.length
    · rw [if_pos c2]; exact ⟨h3, by omega, by omega⟩
    · rw [if_neg c2]; exact ⟨h1, by omega, by omega⟩
/-- Equal bytes become few. -/
theorem bestB_runs (n : Nat) {c : Int} (hc : 0 ≤ c ∧ c < 256) (h16 : n ≤ 65536) : (bestB (List.replicate n c)).length ≤ n / 100 + 16 := by
  have h := bestB_facts (b := List.replicate n c) (fun z hz => by rw [List.eq_of_mem_replicate hz]; exact hc) (by rw [List.length_replicate]; exact h16)
  have h2 := rep_fixed n hc
  have h3 := h.2.2
  unfold fixB at h3
  omega
theorem bitsOf_append {s m : List Int} (hs : Bytes s) (hm : Bytes m) : bitsOf (s ++ m) = bitsOf s ++ bitsOf m := by
  have hsm : Bytes (s ++ m) := fun z hz => by
    rcases List.mem_append.1 hz with h | h
    · exact hs z h
    · exact hm z h
  rw [bitsOf_eq hsm, bitsOf_eq hs, bitsOf_eq hm, List.length_append, Nat.mul_add, bitsL_add]
  have e1 : leNum (s ++ m) % 2 ^ (8 * s.length) = leNum s := by
    have := leNum_take (s ++ m) hsm s.length
    rw [List.take_left, pow256] at this
    exact this.symm
  have e2 : leNum (s ++ m) / 2 ^ (8 * s.length) = leNum m := by
    have := leNum_drop (s ++ m) hsm s.length
    rw [List.drop_left, pow256] at this
    exact this.symm
  rw [e2]
  congr 1
  have h1 := bitsL_num (8 * s.length) (leNum (s ++ m))
  have h2 := bitsL_num (8 * s.length) (leNum s)
  rw [e1] at h1
  have hlt : leNum s < 2 ^ (8 * s.length) := by have := leNum_lt hs; rwa [pow256] at this
  rw [Nat.mod_eq_of_lt hlt] at h2
  exact numOf_inj (bitsL_01 _ _) (bitsL_01 _ _) (by rw [bitsL_len, bitsL_len]) (by rw [h1, h2])
theorem symsR_bd {bt zs ds : List Int} {most : Nat} : ∀ (f : Nat) (out : List Int) (p : Nat) (a : List Int) (q : Nat), symsR bt most zs ds f out p = .ok a q → q ≤ bt.length
  | 0, _, _, _, _, h => by cases h
  | f + 1, out, p, a, q, h => by
    rw [symsR] at h
    obtain ⟨s, p1, h1, h⟩ := bind_ok h
    have e1 := (symR_lt h1).2
    split at h
    · injection h with _ h; omega
    split at h
    · obtain ⟨o2, p2, h2, h⟩ := bind_ok h
      exact symsR_bd f _ _ _ _ h
    split at h
    · cases h
    exact symsR_bd f _ _ _ _ h
theorem codedR_bd {bt zs ds out a : List Int} {most p q : Nat} (h : codedR bt most zs ds out p = .ok a q) : q ≤ bt.length := by
  unfold codedR at h
  split at h
  · exact symsR_bd _ _ _ _ _ h
  · cases h
theorem storedR_bd {bt out a : List Int} {most p q : Nat} (h : storedR bt most out p = .ok a q) : q ≤ bt.length := by
  unfold storedR at h
  obtain ⟨n, p1, h1, h⟩ := bind_ok h
  obtain ⟨m, p2, h2, h⟩ := bind_ok h
  split at h
  · cases h
  split at h
  · cases h
  injection h with _ h
  omega
theorem dynamicR_bd {bt out a : List Int} {most p q : Nat} (h : dynamicR bt most out p = .ok a q) : q ≤ bt.length := by
  unfold dynamicR at h
  obtain ⟨n, p1, h1, h⟩ := bind_ok h
  obtain ⟨m, p2, h2, h⟩ := bind_ok h
  obtain ⟨c, p3, h3, h⟩ := bind_ok h
  split at h
  · cases h
  obtain ⟨sh, p4, h4, h⟩ := bind_ok h
  split at h
  · obtain ⟨all, p5, h5, h⟩ := bind_ok h
    split at h
    · cases h
    exact codedR_bd h
  · cases h
theorem blocksR_bd {bt : List Int} {most : Nat} : ∀ (f : Nat) (out : List Int) (p : Nat) (a : List Int) (q : Nat), blocksR bt most f out p = .ok a q → q ≤ bt.length
  | 0, _, _, _, _, h => by cases h
  | f + 1, out, p, a, q, h => by
    rw [blocksR] at h
    obtain ⟨last, p1, h1, h⟩ := bind_ok h
    obtain ⟨kind, p2, h2, h⟩ := bind_ok h
    obtain ⟨o2, p3, h3, h⟩ := bind_ok h
    have e3 : p3 ≤ bt.length := by
      generalize fixedL = FL at h3
      generalize fixedD = FD at h3
      by_cases k0 : kind = 0
      · rw [if_pos k0] at h3; exact storedR_bd h3
      rw [if_neg k0] at h3
      by_cases k1 : kind = 1
      · rw [if_pos k1] at h3; exact codedR_bd h3
      rw [if_neg k1] at h3
      by_cases k2 : kind = 2
      · rw [if_pos k2] at h3; exact dynamicR_bd h3
      rw [if_neg k2] at h3
      cases h3
    split at h
    · exact blocksR_bd f _ _ _ _ h
    · injection h with _ h; omega
theorem inflateR_pos {bt a : List Int} {most q : Nat} (h : inflateR bt most = .ok a q) : q ≤ bt.length := blocksR_bd _ _ _ _ _ h
/-- Cut off it is not read. -/
theorem reads_cut {s b : List Int} (h : Reads s b) {k : Nat} (hk : k < s.length) {most : Nat} (hm : b.length ≤ most) {a : List Int} {q : Nat} : inflateR (bitsOf (s.take k)) most ≠ .ok a q := fun he => by
  obtain ⟨hB, p, hp, hr⟩ := h
  have h1 := inflateR_more (bitsOf (s.drop k)) he
  have hsplit : bitsOf s = bitsOf (s.take k) ++ bitsOf (s.drop k) := by
    rw [← bitsOf_append (fun z hz => hB z (List.mem_of_mem_take hz)) (fun z hz => hB z (List.mem_of_mem_drop hz)), List.take_append_drop]
  have h2 := hr [] most hm
  rw [List.append_nil, hsplit, h1] at h2
  injection h2 with _ h2
  have h3 := inflateR_pos he
  rw [bitsOf_len, List.length_take] at h3
  omega
end Go.Proofs.YtlhaehefhhcgaaaDoor
namespace Go.Proofs.YtlhaehefhhcgaaaDoor
set_option linter.unusedVariables false

def byteAt (b : List Int) (t : Nat) : UInt8 := UInt8.ofNat (b.getD t 0).toNat
/-- The key of three bytes. -/
def key3 (b : List Int) (t : Nat) : Lit := .string [byteAt b t, byteAt b (t + 1), byteAt b (t + 2)]
theorem byteAt_inj {b : List Int} (hB : ∀ z ∈ b, 0 ≤ z ∧ z < 256) {i j : Nat} (h : byteAt b i = byteAt b j) : b.getD i 0 = b.getD j 0 := by
  have bd : ∀ k, 0 ≤ b.getD k 0 ∧ b.getD k 0 < 256 := fun k => by
    rcases Nat.lt_or_ge k b.length with hk | hk
    · exact hB _ (by simp [hk])
    · rw [List.getD_eq_getElem?_getD, List.getElem?_eq_none hk]; simp
  have h1 := bd i
  have h2 := bd j
  have h3 := congrArg UInt8.toNat h
  unfold byteAt at h3
  simp only [UInt8.toNat_ofNat'] at h3
  omega
theorem key3_eq {b : List Int} (hB : ∀ z ∈ b, 0 ≤ z ∧ z < 256) (i j : Nat) : key3 b i = key3 b j ↔ same3 b i j = true := by
  unfold key3 same3
  simp only [Lit.string.injEq, List.cons.injEq, and_true, Bool.and_eq_true, beq_iff_eq]
  constructor
  · rintro ⟨h1, h2, h3⟩
    exact ⟨⟨byteAt_inj hB h1, byteAt_inj hB h2⟩, byteAt_inj hB h3⟩
  · rintro ⟨⟨h1, h2⟩, h3⟩
    exact ⟨by unfold byteAt; rw [h1], by unfold byteAt; rw [h2], by unfold byteAt; rw [h3]⟩
theorem key3_is (b : List Int) (t : Nat) : WideAt.IsKeyLit (key3 b t) := by unfold key3; simp [WideAt.IsKeyLit]
/-- What the map says of places ahead of k. -/
def LastOk (b : List Int) (D : DataW Unit) (k : Nat) : Prop := Maps.IsMap D ∧ ∀ t, k ≤ t → t + 3 ≤ b.length → Maps.has D (key3 b t) = decide (0 ≤ prevGo b t k) ∧ (0 ≤ prevGo b t k → ∀ z, D.atKey (key3 b t) z = .lit (.int .i64 (prevGo b t k)))
theorem LastOk.zero (b : List Int) : LastOk b (.map []) 0 := ⟨Maps.isMap_empty, fun t _ _ => ⟨rfl, fun h => by simp [prevGo] at h⟩⟩
theorem LastOk.put {b : List Int} (hB : ∀ z ∈ b, 0 ≤ z ∧ z < 256) {D : DataW Unit} {k : Nat} (h : LastOk b D k) : LastOk b (D.put (key3 b k) (.lit (.int .i64 (k : Int)))) (k + 1) := by
  refine ⟨h.1.put _ _, fun t ht ht3 => ?_⟩
  unfold prevGo
  by_cases hs : same3 b k t = true
  · rw [if_pos hs, ← (key3_eq hB k t).2 hs]
    refine ⟨?_, fun _ z => Maps.atKey_put_same h.1 (key3_is b k) _ z⟩
    rw [Maps.has_put_same h.1 (key3_is b k)]
    simp
  · rw [if_neg hs]
    have hne : key3 b t ≠ key3 b k := fun e => hs ((key3_eq hB k t).1 e.symm)
    have h2 := h.2 t (by omega) ht3
    refine ⟨?_, fun h0 z => ?_⟩
    · rw [Maps.has_put_other hne]; exact h2.1
    · rw [Maps.atKey_put_other hne]; exact h2.2 h0 z
theorem LastOk.past {b : List Int} {D : DataW Unit} {k : Nat} (h : LastOk b D k) (hk : b.length < k + 3) : LastOk b D (k + 1) := ⟨h.1, fun t ht ht3 => by omega⟩
/-- Where three bytes stood ahead of that. -/
def aheadL (b : List Int) (k : Nat) : List Int := (List.range b.length).map fun j => if j < k ∧ j + 3 ≤ b.length then prevA b j else 0
theorem aheadL_len (b : List Int) (k : Nat) : (aheadL b k).length = b.length := by simp [aheadL]
theorem aheadL_zero (b : List Int) : aheadL b 0 = List.replicate b.length 0 := by
  apply List.ext_getElem
  · simp [aheadL]
  · intro i h1 h2
    simp [aheadL]
theorem aheadL_get {b : List Int} {k j : Nat} (h : j < k) (h3 : j + 3 ≤ b.length) : (aheadL b k).getD j 0 = prevA b j := by
  have hj : j < b.length := by omega
  simp [aheadL, hj, h, h3]
theorem aheadL_put {b : List Int} {k : Nat} (h3 : k + 3 ≤ b.length) : (aheadL b k).set k (prevA b k) = aheadL b (k + 1) := by
  apply List.ext_getElem
  · simp [aheadL]
  · intro i h1 h2
    rw [List.getElem_set]
    simp only [aheadL, List.getElem_map, List.getElem_range]
    by_cases hi : k = i
    · subst hi; rw [if_pos rfl, if_pos ⟨by omega, h3⟩]
    · rw [if_neg hi]
      by_cases hc : i < k ∧ i + 3 ≤ b.length
      · rw [if_pos hc, if_pos ⟨by omega, hc.2⟩]
      · rw [if_neg hc, if_neg (by omega)]
theorem aheadL_past {b : List Int} {k : Nat} (h3 : b.length < k + 3) : aheadL b k = aheadL b (k + 1) := by
  unfold aheadL
  apply List.map_congr_left
  intro i _
  by_cases hc : i < k ∧ i + 3 ≤ b.length
  · rw [if_pos hc, if_pos ⟨by omega, hc.2⟩]
  · rw [if_neg hc, if_neg (by omega)]
end Go.Proofs.YtlhaehefhhcgaaaDoor
namespace Go.Proofs.YtlhaehefhhcgaaaDoor
set_option linter.unusedVariables false

theorem rangeSet {N : Nat} {f g : Nat → Int} {k : Nat} {v : Int} (hk : f k = v → g k = v) (h1 : g k = v) (h2 : ∀ s, s ≠ k → g s = f s) : ((List.range N).map f).set k v = (List.range N).map g := by
  apply List.ext_getElem
  · simp
  · intro j h3 h4
    rw [List.getElem_set]
    simp only [List.getElem_map, List.getElem_range]
    by_cases hj : k = j
    · subst hj; rw [if_pos rfl, h1]
    · rw [if_neg hj, h2 j (fun e => hj e.symm)]
theorem filter_snoc {α : Type} (p : α → Bool) (l : List α) (a : α) : ((l ++ [a]).filter p).length = (l.filter p).length + if p a then 1 else 0 := by
  rw [List.filter_append, List.length_append]
  cases h : p a <;> simp [h]
theorem freqL_len (l : List Pc) : (freqL l).length = 286 := by simp [freqL]
theorem freqD_len (l : List Pc) : (freqD l).length = 30 := by simp [freqD]
theorem often_len (l : List Pt) : (oftenP l).length = 19 := by simp [oftenP]
theorem freqL_step (l : List Pc) (p : Pc) (h : symOf p < 286) : (freqL l).set (symOf p) ((freqL l).getD (symOf p) 0 + 1) = freqL (l ++ [p]) := by
  rw [freqL_get l h]
  unfold freqL
  refine rangeSet (fun _ => ?_) ?_ (fun s hs => ?_)
  · rw [filter_snoc]; simp; omega
  · rw [filter_snoc]; simp; omega
  · rw [filter_snoc, if_neg (by simpa using Ne.symm hs)]; simp
theorem freqD_step (l : List Pc) (p : Pc) (h0 : p.n ≠ 0) (h : distK p.d < 30) : (freqD l).set (distK p.d) ((freqD l).getD (distK p.d) 0 + 1) = freqD (l ++ [p]) := by
  rw [freqD_get l h]
  unfold freqD
  have hb : (p.n == 0) = false := by simpa using h0
  refine rangeSet (fun _ => ?_) ?_ (fun s hs => ?_)
  · rw [filter_snoc]; simp [hb]
  · rw [filter_snoc]; simp [hb]
  · rw [filter_snoc, if_neg (by simp [hb]; exact Ne.symm hs)]; simp
theorem freqD_skip (l : List Pc) (p : Pc) (h0 : p.n = 0) : freqD (l ++ [p]) = freqD l := by
  unfold freqD
  apply List.map_congr_left
  intro s _
  rw [filter_snoc, if_neg (by simp [h0])]
  simp
theorem often_step (l : List Pt) (q : Pt) (h : q.s < 19) : (oftenP l).set q.s ((oftenP l).getD q.s 0 + 1) = oftenP (l ++ [q]) := by
  rw [oftenP_get l h]
  unfold oftenP
  refine rangeSet (fun _ => ?_) ?_ (fun s hs => ?_)
  · rw [filter_snoc]; simp
  · rw [filter_snoc]; simp
  · rw [filter_snoc, if_neg (by simpa using Ne.symm hs)]; simp
theorem freqL_nil : (List.replicate 286 (0 : Int)).set 256 1 = freqL [] := by
  have : List.replicate 286 (0 : Int) = (List.range 286).map fun _ => 0 := by
    generalize 286 = N
    apply List.ext_getElem
    · simp
    · intro i h1 h2; simp
  rw [this]
  unfold freqL
  exact rangeSet (fun _ => by simp) (by simp) (fun s hs => by simp [hs])
theorem freqD_nil : List.replicate 30 (0 : Int) = freqD [] := by
  unfold freqD
  generalize 30 = N
  apply List.ext_getElem
  · simp
  · intro i h1 h2; simp
theorem often_nil : List.replicate 19 (0 : Int) = oftenP [] := by
  unfold oftenP
  generalize 19 = N
  apply List.ext_getElem
  · simp
  · intro i h1 h2; simp
theorem freq_bd {l : List Pc} (hl : l.length ≤ 65536) (s : Nat) : 0 ≤ (freqL l).getD s 0 ∧ (freqL l).getD s 0 ≤ 65537 := by
  rcases Nat.lt_or_ge s 286 with h | h
  · rw [freqL_get l h]
    have := List.length_filter_le (fun q => symOf q == s) l
    split <;> omega
  · rw [List.getD_eq_getElem?_getD, List.getElem?_eq_none (by rw [freqL_len]; exact h)]; simp
theorem freqD_bd {l : List Pc} (hl : l.length ≤ 65536) (s : Nat) : 0 ≤ (freqD l).getD s 0 ∧ (freqD l).getD s 0 ≤ 65537 := by
  rcases Nat.lt_or_ge s 30 with h | h
  · rw [freqD_get l h]
    have := List.length_filter_le (fun q : Pc => !(q.n == 0) && distK q.d == s) l
    omega
  · rw [List.getD_eq_getElem?_getD, List.getElem?_eq_none (by rw [freqD_len]; exact h)]; simp
theorem often_bd {l : List Pt} (hl : l.length ≤ 65536) (s : Nat) : 0 ≤ (oftenP l).getD s 0 ∧ (oftenP l).getD s 0 ≤ 65537 := by
  rcases Nat.lt_or_ge s 19 with h | h
  · rw [oftenP_get l h]
    have := List.length_filter_le (fun q : Pt => q.s == s) l
    omega
  · rw [List.getD_eq_getElem?_getD, List.getElem?_eq_none (by rw [often_len]; exact h)]; simp
end Go.Proofs.YtlhaehefhhcgaaaDoor
