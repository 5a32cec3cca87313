/-
  what this claim needs of: StL (written by cut.py).
-/
import Derived.Test.YtgjjdfhoakailaaGreatOStT5
import Derived.Test.YtgjjdfhoakailaaGreatOStT3
namespace Go.Proofs.YtgjjdfhoakailaaGreat
open Go.RowKit Go.Maps Go.Sort Go.Shelf
set_option linter.unusedVariables false
set_option linter.unusedSimpArgs false

def isExt (K : Key) (i : It) : Bool := i.kind == 1 && decide (i.key = K)
def extI (l : List It) (K : Key) : Option It := l.find? (isExt K)
def snapB (l : List It) (id : Int) : Bool := l.any (fun i => i.kind == 3 && decide (i.snap = id))
/-- The bits of a mask that stay: unit u, from a on, ahead of b. -/
def bitGo (u a b : Int) : Nat → Int → Int
  | 0, m => m
  | k + 1, m => if a ≤ 8 * u + k ∧ 8 * u + k < b then anM (bitGo u a b k m) ((2 : Int) ^ k) else bitGo u a b k m
theorem Perm.cnt {l l' : List It} (h : l.Perm l') (K : Key) : cntI l K = cntI l' K := by unfold cntI; rw [(h.filter _).length_eq]
def sI (id : Int) (u : Nat) (s : Sl) : It := ⟨2, zKey, zPl, id, (u : Int), s⟩
def IdsR (M : SnM) : Prop := ∀ p ∈ M, 1 ≤ p.1 ∧ p.1 ≤ 1073741824
theorem sIds_iff {M : SnM} {id : Int} : id ∈ sIds M ↔ ∃ q ∈ M, q.1 = id := by
  rw [(sIds_perm M).mem_iff, List.mem_map]
theorem st_mem {n : Nat} {E : ExM} {f : MpF} {M : SnM} (hm : Uniq M) (hz : IdsR M) {x : It} :
    x ∈ stItems n E f M ↔ (∃ p ∈ E, x = exIt p) ∨ (∃ u, u < n ∧ (f u).mask ≠ 0 ∧ x = sI 0 u (f u)) ∨ (∃ q ∈ M, ∃ u, u < n ∧ (q.2.2 u).mask ≠ 0 ∧ x = sI q.1 u (q.2.2 u)) ∨ ∃ q ∈ M, x = snI q.1 := by
  unfold stItems
  rw [List.mem_append, xItems_mem, mItems_mem]
  constructor
  · rintro (h | ⟨id, hid, u, hu, h1, rfl⟩ | ⟨id, hid, rfl⟩)
    · exact .inl h
    · rcases List.mem_cons.1 hid with rfl | hid
      · exact .inr (.inl ⟨u, hu, h1, rfl⟩)
      · obtain ⟨q, hq, rfl⟩ := sIds_iff.1 hid
        rw [gAt_mem hm (fun p hp => (hz p hp).1) hq] at h1 ⊢
        exact .inr (.inr (.inl ⟨q, hq, u, hu, h1, rfl⟩))
    · obtain ⟨q, hq, rfl⟩ := sIds_iff.1 hid
      exact .inr (.inr (.inr ⟨q, hq, rfl⟩))
  · rintro (h | ⟨u, hu, h1, rfl⟩ | ⟨q, hq, u, hu, h1, rfl⟩ | ⟨q, hq, rfl⟩)
    · exact .inl h
    · exact .inr (.inl ⟨0, List.mem_cons_self .., u, hu, h1, rfl⟩)
    · refine .inr (.inl ⟨q.1, List.mem_cons_of_mem _ (sIds_iff.2 ⟨q, hq, rfl⟩), u, hu, ?_⟩)
      rw [gAt_mem hm (fun p hp => (hz p hp).1) hq]
      exact ⟨h1, rfl⟩
    · exact .inr (.inr ⟨q.1, sIds_iff.2 ⟨q, hq, rfl⟩, rfl⟩)
theorem st_nd {n : Nat} (hn : n ≤ 512) {E : ExM} (f : MpF) {M : SnM} (hE : Uniq E) (hu : Uniq M) (hz : IdsR M) : (stItems n E f M).Nodup := by
  have h := nd_st hn f hE hu hz
  exact (List.pairwise_map.1 h).imp (fun h e => h (by rw [e]))
theorem perm_of {l l' : List It} (h : l.Nodup) (h' : l'.Nodup) (hm : ∀ x, x ∈ l ↔ x ∈ l') : l.Perm l' := (List.perm_ext_iff_of_nodup h h').2 hm
theorem sI_inj {id id' : Int} {u u' : Nat} {s s' : Sl} (h : sI id u s = sI id' u' s') : id = id' ∧ u = u' ∧ s = s' := by
  unfold sI at h
  simp only [It.mk.injEq, true_and] at h
  exact ⟨h.1, by omega, h.2.2⟩
end Go.Proofs.YtgjjdfhoakailaaGreat
namespace Go.Proofs.YtgjjdfhoakailaaGreat
open Go.RowKit Go.Maps Go.Sort Go.Shelf
set_option linter.unusedVariables false
set_option linter.unusedSimpArgs false
section
variable {n : Nat} {E : ExM} {f : MpF} {M : SnM} {l : List It}
theorem snaps_perm (h : l.Perm (stItems n E f M)) : snapsN l = M.length := by
  rw [← snaps_st n E f M]
  unfold snapsN
  rw [(h.filter _).length_eq]
end
theorem nd_of_st {l : List It} (h : (l.map stT).Nodup) : l.Nodup := (List.pairwise_map.1 h).imp (fun h e => h (by rw [e]))
end Go.Proofs.YtgjjdfhoakailaaGreat
namespace Go.Proofs.YtgjjdfhoakailaaGreat
open Go.RowKit Go.Maps Go.Sort Go.Shelf
set_option linter.unusedVariables false
set_option linter.unusedSimpArgs false
section
variable {n : Nat} {E : ExM} {g : MpF} {M : SnM} {out : List It}
end
/-- The bits from one on, ahead of another, taken out one by one. -/
def bitF (a b : Nat) : Nat → Int → Int
  | 0, m => m
  | k + 1, m => if a ≤ k ∧ k < b then anM (bitF a b k m) ((2 : Int) ^ k) else bitF a b k m
theorem bit_all : ∀ m, m < 256 → ∀ b, b < 9 → ∀ a, a < 9 → a < b → anM ((m : Nat) : Int) ((2 : Int) ^ b - (2 : Int) ^ a) = bitF a b 8 (m : Int) := by decide +kernel
theorem bit_go {u a b : Int} {c d : Nat} {m : Int} (h : ∀ k : Nat, k < 8 → ((a ≤ 8 * u + k ∧ 8 * u + k < b) ↔ (c ≤ k ∧ k < d))) : ∀ j, j ≤ 8 → bitGo u a b j m = bitF c d j m
  | 0, _ => rfl
  | j + 1, hj => by
    have ih : bitGo u a b j m = bitF c d j m := bit_go h j (by omega)
    unfold bitGo bitF
    rw [ih]
    by_cases hc : c ≤ j ∧ j < d
    · rw [if_pos hc, if_pos ((h j (by omega)).2 hc)]
    · rw [if_neg hc, if_neg (fun h2 => hc ((h j (by omega)).1 h2))]
theorem clrGo_at (k : Nat) : ∀ (f : MpF) (at_ en u : Nat), en ≤ at_ + k → clrGo k f at_ en u = if 8 * u + 8 ≤ at_ ∨ en ≤ 8 * u ∨ en ≤ at_ then f u else clr1 (f u) (max at_ (8 * u) - 8 * u) (min 8 (en - 8 * u)) := by
  induction k with
  | zero => intro f a e u h; rw [clrGo, if_pos (by omega)]
  | succ k ih =>
    intro f a e u h
    by_cases hlt : a < e
    · have ht : clrTo a e = min 8 (a % 8 + (e - a)) := rfl
      rw [clrGo, if_pos hlt, ih _ _ _ _ (by rw [ht]; omega)]
      have h8 : a + (clrTo a e - a % 8) = min (8 * (a / 8) + 8) e := by rw [ht]; omega
      rw [h8]
      by_cases hu : u = a / 8
      · subst hu
        rw [if_pos (by omega), if_neg (by omega)]
        unfold upd
        rw [if_pos rfl]
        have e1 : max a (8 * (a / 8)) - 8 * (a / 8) = a % 8 := by omega
        have e2 : min 8 (e - 8 * (a / 8)) = clrTo a e := by rw [ht]; omega
        rw [e1, e2]
      · unfold upd
        rw [if_neg hu]
        by_cases hc : 8 * u + 8 ≤ a ∨ e ≤ 8 * u ∨ e ≤ a
        · rw [if_pos hc, if_pos (by omega)]
        · rw [if_neg hc, if_neg (by omega)]
          have e1 : max (min (8 * (a / 8) + 8) e) (8 * u) = max a (8 * u) := by omega
          rw [e1]
    · rw [clrGo, if_neg hlt, if_pos (by omega)]
theorem bit_none {u a b : Int} {m : Int} (h : ∀ k : Nat, k < 8 → ¬ (a ≤ 8 * u + k ∧ 8 * u + k < b)) : ∀ j, j ≤ 8 → bitGo u a b j m = m
  | 0, _ => rfl
  | j + 1, hj => by
    have ih : bitGo u a b j m = m := bit_none h j (by omega)
    unfold bitGo
    rw [if_neg (h j (by omega)), ih]
/-- Clear, bit by bit. -/
theorem clr_bits {n : Nat} {f : MpF} {p m : Int} (hp : 0 ≤ p) (hm : 0 ≤ m) (hc : clrE n p m = 0) (u : Nat) (hb : 0 ≤ (f u).mask ∧ (f u).mask ≤ 255) :
    (clrF n f p m u).mask = bitGo (u : Int) p (p + m) 8 (f u).mask ∧ (bitGo (u : Int) p (p + m) 8 (f u).mask ≠ 0 → clrF n f p m u = ⟨(f u).key, (f u).off, bitGo (u : Int) p (p + m) 8 (f u).mask⟩) := by
  unfold clrF
  rw [if_pos hc, clrGo_at _ _ _ _ _ (by omega)]
  split
  · rename_i h
    have e : bitGo (u : Int) p (p + m) 8 (f u).mask = (f u).mask := bit_none (fun k hk => by omega) 8 (by omega)
    rw [e]
    exact ⟨rfl, fun _ => rfl⟩
  · rename_i h
    obtain ⟨c, hcc⟩ : ∃ c, c = max p.toNat (8 * u) - 8 * u := ⟨_, rfl⟩
    obtain ⟨d, hd⟩ : ∃ d, d = min 8 (p.toNat + m.toNat - 8 * u) := ⟨_, rfl⟩
    rw [← hcc, ← hd]
    have e1 : bitGo (u : Int) p (p + m) 8 (f u).mask = bitF c d 8 (f u).mask := bit_go (fun k hk => by omega) 8 (by omega)
    have e2 := bit_all (f u).mask.toNat (by omega) d (by omega) c (by omega) (by omega)
    have e3 : (((f u).mask.toNat : Nat) : Int) = (f u).mask := by omega
    rw [e3] at e2
    unfold clr1
    rw [e1, e2]
    split
    · rename_i h0
      exact ⟨h0.symm, fun h1 => absurd h0 h1⟩
    · exact ⟨rfl, fun _ => rfl⟩
end Go.Proofs.YtgjjdfhoakailaaGreat
namespace Go.Proofs.YtgjjdfhoakailaaGreat
open Go.RowKit Go.Maps Go.Sort Go.Shelf
set_option linter.unusedVariables false
set_option linter.unusedSimpArgs false
section
variable {n : Nat} {E : ExM} {f : MpF} {M : SnM} {l : List It}
theorem put_ids {id : Int} {v : Nat × MpF} (hid : 1 ≤ id ∧ id ≤ 1073741824) (hz : IdsR M) : IdsR (aput M id v) := by
  intro p hp
  unfold aput at hp
  rcases List.mem_cons.1 hp with rfl | hp
  · exact hid
  · exact hz p (mem_adel hp)
theorem mem_put {id : Int} (hg : aget M id = none) {v : Nat × MpF} {p : Int × (Nat × MpF)} : p ∈ aput M id v ↔ p = (id, v) ∨ p ∈ M := by
  unfold aput
  rw [adel_none hg, List.mem_cons]
end
end Go.Proofs.YtgjjdfhoakailaaGreat
namespace Go.Proofs.YtgjjdfhoakailaaGreat
open Go.RowKit Go.Maps Go.Sort Go.Shelf
set_option linter.unusedVariables false
set_option linter.unusedSimpArgs false
section
variable {n : Nat} {E : ExM} {f : MpF} {M : SnM} {l : List It}
end
end Go.Proofs.YtgjjdfhoakailaaGreat
namespace Go.Proofs.YtgjjdfhoakailaaGreat
open Go.RowKit Go.Maps Go.Sort Go.Shelf
set_option linter.unusedVariables false
set_option linter.unusedSimpArgs false
/-- Does an item stand ahead of another one? -/
def befI (a b : It) : Bool :=
  if a.kind = b.kind then
    if a.kind = 1 then decide (cmpK a.key b.key < 0)
    else if a.kind = 2 then (if a.snap = b.snap then decide (a.unit < b.unit) else decide (a.snap < b.snap))
    else decide (a.snap < b.snap)
  else decide (a.kind < b.kind)
theorem cmpK_trans {a b c : Key} (h1 : cmpK a b < 0) (h2 : cmpK b c < 0) : cmpK a c < 0 := cb_trans _ _ _ h1 h2
theorem befI_trans {a b c : It} (h1 : befI a b = true) (h2 : befI b c = true) : befI a c = true := by
  unfold befI at *
  by_cases e1 : a.kind = b.kind
  · by_cases e2 : b.kind = c.kind
    · rw [if_pos e1] at h1
      rw [if_pos e2] at h2
      rw [if_pos (e1.trans e2)]
      by_cases k1 : a.kind = 1
      · rw [if_pos k1] at h1 ⊢
        rw [if_pos (by omega)] at h2
        exact decide_eq_true (cmpK_trans (of_decide_eq_true h1) (of_decide_eq_true h2))
      · rw [if_neg k1] at h1 ⊢
        rw [if_neg (by omega)] at h2
        by_cases k2 : a.kind = 2
        · rw [if_pos k2] at h1 ⊢
          rw [if_pos (by omega)] at h2
          split at h1 <;> split at h2 <;> split <;> simp only [decide_eq_true_eq] at * <;> omega
        · rw [if_neg k2] at h1 ⊢
          rw [if_neg (by omega)] at h2
          simp only [decide_eq_true_eq] at *
          omega
    · rw [if_neg e2] at h2
      rw [if_neg (by omega), e1]
      exact h2
  · rw [if_neg e1] at h1
    by_cases e2 : b.kind = c.kind
    · rw [if_neg (by omega), ← e2]
      exact h1
    · rw [if_neg e2] at h2
      simp only [decide_eq_true_eq] at *
      rw [if_neg (by omega)]
      simp only [decide_eq_true_eq]
      omega
theorem befI_asymm {a b : It} (h1 : befI a b = true) (h2 : befI b a = true) : False := by
  have h := befI_trans h1 h2
  unfold befI at h
  rw [if_pos rfl, cmpK_self] at h
  split at h
  · exact absurd (of_decide_eq_true h) (by omega)
  · split at h
    · rw [if_pos rfl] at h
      exact absurd (of_decide_eq_true h) (by omega)
    · exact absurd (of_decide_eq_true h) (by omega)
theorem befI_sl (id id' u u' : Int) (s s' : Sl) : befI ⟨2, zKey, zPl, id, u, s⟩ ⟨2, zKey, zPl, id', u', s'⟩ = if id = id' then decide (u < u') else decide (id < id') := rfl
theorem befI_x (p q : Key × Pl) : befI (exIt p) (exIt q) = decide (cmpK p.1 q.1 < 0) := rfl
theorem befI_n (a b : Int) : befI (snI a) (snI b) = decide (a < b) := rfl
abbrev SortedI (l : List It) : Prop := l.Pairwise (fun a b => befI a b = true)
theorem sorted_eq {l r : List It} (hl : SortedI l) (hr : SortedI r) (h : l.Perm r) : l = r :=
  List.Perm.eq_of_pairwise (le := fun a b => befI a b = true) (fun a b _ _ h1 h2 => (befI_asymm h1 h2).elim) hl hr h
theorem slIs_sorted (n : Nat) (g : MpF) (id : Int) : SortedI (slIs n g id) := by
  induction n with
  | zero => exact List.Pairwise.nil
  | succ n ih =>
    rw [slIs_succ]
    refine List.pairwise_append.2 ⟨ih, ?_, fun a ha b hb => ?_⟩
    · unfold slI
      split
      · exact List.Pairwise.nil
      · exact List.pairwise_singleton _ _
    · obtain ⟨u, hu, _, rfl⟩ := mem_slIs.1 ha
      unfold slI at hb
      split at hb
      · cases hb
      · rw [List.mem_singleton] at hb
        subst hb
        rw [befI_sl, if_pos rfl]
        exact decide_eq_true (by omega)
theorem mSl_sorted (n : Nat) (f : MpF) (M : SnM) : ∀ ids : List Int, ids.Pairwise (· < ·) → SortedI (mSl n f M ids)
  | [], _ => List.Pairwise.nil
  | id :: ids, h => by
    obtain ⟨h1, h2⟩ := List.pairwise_cons.1 h
    have ih := mSl_sorted n f M ids h2
    unfold mSl at *
    rw [List.flatMap_cons]
    refine List.pairwise_append.2 ⟨slIs_sorted .., ih, fun a ha b hb => ?_⟩
    obtain ⟨u, hu, _, rfl⟩ := mem_slIs.1 ha
    obtain ⟨id2, hid, hb⟩ := List.mem_flatMap.1 hb
    obtain ⟨v, hv, _, rfl⟩ := mem_slIs.1 hb
    have := h1 id2 hid
    rw [befI_sl, if_neg (by omega)]
    exact decide_eq_true this
theorem sIds_lt {M : SnM} (h : Uniq M) : (sIds M).Pairwise (· < ·) := by
  have h1 : (sIds M).Pairwise (fun a b => leI a b = true) := List.pairwise_mergeSort (fun a b c h1 h2 => decide_eq_true (by have := of_decide_eq_true h1; have := of_decide_eq_true h2; omega)) (fun a b => by show (decide (a ≤ b) || decide (b ≤ a)) = true; rw [Bool.or_eq_true, decide_eq_true_eq, decide_eq_true_eq]; omega) _
  have h2 : (sIds M).Nodup := (sIds_perm M).nodup_iff.2 (uniq_nodup h)
  refine (h1.and h2).imp (fun {a b} h => ?_)
  have := of_decide_eq_true h.1
  have := h.2
  omega
theorem xItems_srt {E : ExM} (h : Uniq E) : SortedI (xItems E) := by
  have h2 : (xItems E).Pairwise (fun a b => a.key ≠ b.key) := by
    have h3 : ((E.map exIt).map It.key).Nodup := by
      rw [List.map_map]
      exact uniq_nodup h
    have h4 : ((xItems E).map It.key).Nodup := ((xItems_perm E).map It.key).nodup_iff.2 h3
    exact List.pairwise_map.1 h4
  refine ((xItems_sorted E).and h2).imp_of_mem (fun {a b} ha hb h => ?_)
  obtain ⟨p, _, rfl⟩ := xItems_mem.1 ha
  obtain ⟨q, _, rfl⟩ := xItems_mem.1 hb
  obtain ⟨h1, h2⟩ := h
  unfold leIt ltOf at h1
  simp at h1
  rw [befI_x]
  refine decide_eq_true ?_
  rcases Int.lt_or_le (cmpK p.1 q.1) 0 with h3 | h3
  · exact h3
  · exact absurd (cmpK_zero (K := p.1) (L := q.1) h3 h1) h2
theorem st_sorted {n : Nat} {E : ExM} {f : MpF} {M : SnM} (hE : Uniq E) (hm : Uniq M) (hz : IdsR M) : SortedI (stItems n E f M) := by
  have hids : (0 :: sIds M).Pairwise (· < ·) := List.pairwise_cons.2 ⟨fun id hid => by
    obtain ⟨q, hq, rfl⟩ := sIds_iff.1 hid
    have := hz q hq
    omega, sIds_lt hm⟩
  have hlt : ∀ {a b : It}, a.kind < b.kind → befI a b = true := fun {a b} h => by
    unfold befI
    rw [if_neg (by omega)]
    exact decide_eq_true h
  unfold stItems mItems
  refine List.pairwise_append.2 ⟨xItems_srt hE, List.pairwise_append.2 ⟨mSl_sorted n f M _ hids, ?_, fun a ha b hb => ?_⟩, fun a ha b hb => ?_⟩
  · refine List.pairwise_map.2 ((sIds_lt hm).imp (fun {a b} h => ?_))
    rw [befI_n]
    exact decide_eq_true h
  · unfold mSl at ha
    obtain ⟨id, _, ha⟩ := List.mem_flatMap.1 ha
    obtain ⟨u, _, _, rfl⟩ := mem_slIs.1 ha
    obtain ⟨id2, _, rfl⟩ := List.mem_map.1 hb
    exact hlt (show (2 : Int) < 3 by decide)
  · obtain ⟨p, _, rfl⟩ := xItems_mem.1 ha
    refine hlt ?_
    rcases List.mem_append.1 hb with hb | hb
    · unfold mSl at hb
      obtain ⟨id, _, hb⟩ := List.mem_flatMap.1 hb
      obtain ⟨u, _, _, rfl⟩ := mem_slIs.1 hb
      exact (show (1 : Int) < 2 by decide)
    · obtain ⟨id2, _, rfl⟩ := List.mem_map.1 hb
      exact (show (1 : Int) < 3 by decide)
theorem st_kinds {n : Nat} {E : ExM} {f : MpF} {M : SnM} (hm : Uniq M) (hz : IdsR M) {x : It} (h : x ∈ stItems n E f M) : x.kind = 1 ∨ x.kind = 2 ∨ x.kind = 3 := by
  rcases (st_mem hm hz).1 h with ⟨p, _, rfl⟩ | ⟨u, _, _, rfl⟩ | ⟨q, _, u, _, _, rfl⟩ | ⟨q, _, rfl⟩
  · exact .inl rfl
  · exact .inr (.inl rfl)
  · exact .inr (.inl rfl)
  · exact .inr (.inr rfl)
/-- Of two of a sorted row's items one stands ahead of the other. -/
theorem sorted_total {l : List It} (h : SortedI l) {a b : It} (ha : a ∈ l) (hb : b ∈ l) (hne : a ≠ b) : befI a b = true ∨ befI b a = true := by
  induction l with
  | nil => cases ha
  | cons x l ih =>
    obtain ⟨h1, h2⟩ := List.pairwise_cons.1 h
    rcases List.mem_cons.1 ha with ea | ha2
    · rcases List.mem_cons.1 hb with eb | hb2
      · exact absurd (ea.trans eb.symm) hne
      · rw [ea]
        exact .inl (h1 b hb2)
    · rcases List.mem_cons.1 hb with eb | hb2
      · rw [eb]
        exact .inr (h1 a ha2)
      · exact ih h2 ha2 hb2
/-- One more item, put where it belongs. -/
theorem ins_sorted {P : List It} {x : It} {k : Nat} (hk : k ≤ P.length) (hP : SortedI P) (hd : ∀ y ∈ P.drop k, befI x y = true) (ht : ∀ j, k = j + 1 → ∀ hj : j < P.length, befI P[j] x = true) : SortedI (P.take k ++ x :: P.drop k) := by
  have hs : SortedI (P.take k ++ P.drop k) := by rw [List.take_append_drop]; exact hP
  obtain ⟨h1, h2, h3⟩ := List.pairwise_append.1 hs
  have hx : ∀ y ∈ P.take k, befI y x = true := by
    intro y hy
    cases k with
    | zero => simp at hy
    | succ j =>
      have hj : j < P.length := by omega
      have h4 := ht j rfl hj
      rw [List.take_succ_eq_append_getElem hj] at hy h1
      rcases List.mem_append.1 hy with hy | hy
      · exact befI_trans ((List.pairwise_append.1 h1).2.2 y hy _ (by simp)) h4
      · rw [List.mem_singleton] at hy
        rw [hy]
        exact h4
  refine List.pairwise_append.2 ⟨h1, List.pairwise_cons.2 ⟨hd, h2⟩, fun a ha b hb => ?_⟩
  rcases List.mem_cons.1 hb with rfl | hb
  · exact hx a ha
  · exact h3 a ha b hb
theorem ins_perm (P : List It) (x : It) (k : Nat) : (P.take k ++ x :: P.drop k).Perm (P ++ [x]) := by
  have h1 : (P.take k ++ x :: P.drop k).Perm (x :: (P.take k ++ P.drop k)) := List.perm_middle
  rw [List.take_append_drop] at h1
  exact h1.trans (List.perm_append_singleton x P).symm
end Go.Proofs.YtgjjdfhoakailaaGreat
namespace Go.Proofs.YtgjjdfhoakailaaGreat
open Go.RowKit Go.Maps Go.Sort Go.Shelf
set_option linter.unusedVariables false
set_option linter.unusedSimpArgs false

theorem rng_sub {w : World} {b o : Nat} {xs : List Value} (h : w.rangeAt b o xs) (k : Nat) (ys : List Value) (hy : (xs.drop k).take ys.length = ys) : w.rangeAt b (o + k) ys := fun q v hv => by
  have h1 : xs[k + q]? = some v := by
    rw [← hy, List.getElem?_take] at hv
    split at hv
    · rw [List.getElem?_drop] at hv; exact hv
    · cases hv
  have := h (k + q) v h1
  rw [← Nat.add_assoc] at this
  exact this
theorem any_next {α : Type} {p : α → Bool} {l : List α} {i : Nat} (hi : i < l.length) (h : (l.take i).any p = false) (hx : p l[i] = false) : (l.take (i + 1)).any p = false := by
  rw [List.take_succ_eq_append_getElem hi, List.any_append, h]
  simp [hx]
theorem any_hit {α : Type} {p : α → Bool} {l : List α} {i : Nat} (hi : i < l.length) (hx : p l[i] = true) : l.any p = true := List.any_eq_true.2 ⟨_, List.getElem_mem hi, hx⟩
theorem find_hit {α : Type} {p : α → Bool} {l : List α} {i : Nat} (hi : i < l.length) (h : (l.take i).any p = false) (hx : p l[i] = true) : l.find? p = some l[i] := by
  have e : l = l.take i ++ l[i] :: l.drop (i + 1) := by rw [← List.drop_eq_getElem_cons hi, List.take_append_drop]
  have h1 : (l.take i).find? p = none := List.find?_eq_none.2 (fun x hx => by have := List.any_eq_false.1 h x hx; simpa using this)
  conv => lhs; rw [e]
  rw [List.find?_append, h1, List.find?_cons, hx]
  rfl
theorem find_end {α : Type} {p : α → Bool} {l : List α} {i : Nat} (hi : l.length ≤ i) (h : (l.take i).any p = false) : l.find? p = none := by
  rw [List.take_of_length_le hi] at h
  exact List.find?_eq_none.2 (fun x hx => by have := List.any_eq_false.1 h x hx; simpa using this)
theorem key_eql (K L : Key) (w : World) : (binOp BinOp.eql 50 (.agg (keyL K).toArray) (.agg (keyL L).toArray)).run Tryz.prog w = .ok (.bool (decide (K = L))) w := by
  have := key_eqIn' K L w
  unfold vKey at this
  rw [run_eql_struct, this]
  rfl
def snQ (id : Int) (i : It) : Bool := i.kind == 3 && decide (i.snap = id)
set_option maxRecDepth 100000 in
set_option maxHeartbeats 2000000 in
theorem rSnap_any {w : World} {A : Option Addr} {n c : Nat} {l : List It} (h : Src w 73 (.slice A n c) n (itsC l)) (hl : l.length = n) (hn : n ≤ 100000000) (id : Int) :
    Calls Tryz.prog 53 #[.slice A n c, .int .i64 id] w fun e w' => e = .returned (.bool (snapB l id)) ∧ Below w.heap.size w w' := by
  have H := Lib.hid h
  have HL := Lib.hid hl
  clear h hl
  go_enter Tryz.func53, Tryz.ntmps53
  go_upto_region 2 with fail
  go_loopg [5] n (fun k iv wr => ∃ i : Nat, iv = .int .i64 (i : Int) ∧ i ≤ n ∧ i + k ≤ n ∧ n ≤ i + k ∧ (l.take i).any (snQ id) = false ∧ Below w.heap.size w wr)
  case atStart => exact ⟨0, rfl, by omega, by omega, by omega, by simp, Below.refl _ _⟩
  case round =>
    obtain ⟨i, rfl, i1, i2, i3, ha, hb⟩ := hrel
    have HA := Lib.hid ha
    have LB := Lib.hid hb
    clear ha hb
    by_cases hi : i < n
    · have hiI : (i : Int) < (n : Int) := by omega
      have hil : i < l.length := by rw [HL.out]; exact hi
      obtain ⟨b, off, hA, hr⟩ := src_part itC_len (H.out.below LB.out) HL.out hil
      have HN := Lib.hid (fun h => any_next (p := snQ id) hil HA.out h)
      have HT := Lib.hid (fun h => any_hit (p := snQ id) hil h)
      generalize l[i] = x at hr HN HT
      subst hA
      have k0 : wr.cell? ⟨b, off + i * 73, none⟩ = some (.int .u8 x.kind) := hr 0 _ rfl
      have k1 := hr 37 _ (it_snap x)
      clear hr hil
      by_cases h1 : x.kind = 3
      · have b1 : (x.kind == 3) = true := beq_iff_eq.2 h1
        by_cases h2 : x.snap = id
        · have b2 : (x.snap == id) = true := beq_iff_eq.2 h2
          have HF := Lib.hid (HT.out (show snQ id x = true by unfold snQ; rw [b1, decide_eq_true h2]; rfl))
          clear h1 h2 HN HT
          go_wp2_with fail
          go_ret
          exact ⟨congrArg (fun b => Ending.returned (.bool b)) HF.out.symm, LB.out⟩
        · have b2 : (x.snap == id) = false := beq_eq_false_iff_ne.2 h2
          have HF := Lib.hid (HN.out (show snQ id x = false by unfold snQ; rw [b1, decide_eq_false h2]; rfl))
          clear h1 h2 HN HT
          go_wp2_with fail
          go_roundg (gk - 1)
          case measure => omega
          case rel => exact ⟨i + 1, by congr 1, by omega, by omega, by omega, HF.out, LB.out⟩
      · have b1 : (x.kind == 3) = false := beq_eq_false_iff_ne.2 h1
        have HF := Lib.hid (HN.out (show snQ id x = false by unfold snQ; rw [b1]; rfl))
        clear h1 HN HT
        go_wp2_with fail
        go_roundg (gk - 1)
        case measure => omega
        case rel => exact ⟨i + 1, by congr 1, by omega, by omega, by omega, HF.out, LB.out⟩
    · have hiI : ¬ (i : Int) < (n : Int) := by omega
      have HF := Lib.hid (show snapB l id = false by
        have := HA.out
        rw [List.take_of_length_le (by rw [HL.out]; omega)] at this
        exact this)
      go_wp2_with fail
      go_ret
      exact ⟨by rw [HF.out]; rfl, LB.out⟩
theorem snaps_take {l : List It} {i : Nat} (hi : i < l.length) : snapsN (l.take (i + 1)) = snapsN (l.take i) + if l[i].kind == 3 then 1 else 0 := by
  rw [List.take_succ_eq_append_getElem hi, snapsN_snoc]
set_option maxRecDepth 100000 in
set_option maxHeartbeats 2000000 in
theorem rSnaps_any {w : World} {A : Option Addr} {n c : Nat} {l : List It} (h : Src w 73 (.slice A n c) n (itsC l)) (hl : l.length = n) (hn : n ≤ 100000000) :
    Calls Tryz.prog 54 #[.slice A n c] w fun e w' => e = .returned (.int .i64 (snapsN l : Int)) ∧ Below w.heap.size w w' := by
  have H := Lib.hid h
  have HL := Lib.hid hl
  clear h hl
  go_enter Tryz.func54, Tryz.ntmps54
  go_upto_region 3 with fail
  go_loopg [3, 4] n (fun k mv iv wr => ∃ i m : Nat, iv = .int .i64 (i : Int) ∧ mv = .int .i64 (m : Int) ∧ i ≤ n ∧ i + k ≤ n ∧ n ≤ i + k ∧ m = snapsN (l.take i) ∧ m ≤ i ∧ Below w.heap.size w wr)
  case atStart => exact ⟨0, 0, rfl, rfl, by omega, by omega, by omega, by simp [snapsN], by omega, Below.refl _ _⟩
  case round =>
    obtain ⟨i, m, rfl, rfl, i1, i2, i3, ha, hm, hb⟩ := hrel
    have HA := Lib.hid ha
    have LB := Lib.hid hb
    clear ha hb
    by_cases hi : i < n
    · have hiI : (i : Int) < (n : Int) := by omega
      have hil : i < l.length := by rw [HL.out]; exact hi
      obtain ⟨b, off, hA, hr⟩ := src_part itC_len (H.out.below LB.out) HL.out hil
      have HN := Lib.hid (snaps_take hil)
      generalize l[i] = x at hr HN
      subst hA
      have k0 : wr.cell? ⟨b, off + i * 73, none⟩ = some (.int .u8 x.kind) := hr 0 _ rfl
      clear hr hil
      by_cases h1 : x.kind = 3
      · have b1 : (x.kind == 3) = true := beq_iff_eq.2 h1
        have HF := Lib.hid (show m + 1 = snapsN (l.take (i + 1)) by rw [HN.out, b1, HA.out]; rfl)
        clear h1 HN
        go_wp2_with fail
        go_roundg (gk - 1)
        case measure => omega
        case rel => exact ⟨i + 1, m + 1, by congr 1, by congr 1, by omega, by omega, by omega, HF.out, by omega, LB.out⟩
      · have b1 : (x.kind == 3) = false := beq_eq_false_iff_ne.2 h1
        have HF := Lib.hid (show m = snapsN (l.take (i + 1)) by rw [HN.out, b1, HA.out]; rfl)
        clear h1 HN
        go_wp2_with fail
        go_roundg (gk - 1)
        case measure => omega
        case rel => exact ⟨i + 1, m, by congr 1, rfl, by omega, by omega, by omega, HF.out, by omega, LB.out⟩
    · have hiI : ¬ (i : Int) < (n : Int) := by omega
      have HF := Lib.hid (show m = snapsN l by
        have := HA.out
        rw [List.take_of_length_le (by rw [HL.out]; omega)] at this
        exact this)
      go_wp2_with fail
      go_ret
      exact ⟨by rw [← HF.out]; rfl, LB.out⟩
theorem cntI_take {l : List It} {i : Nat} (hi : i < l.length) (K : Key) : cntI (l.take (i + 1)) K = cntI (l.take i) K + if l[i].kind == 2 && decide (l[i].sl.key = K) then 1 else 0 := by
  rw [List.take_succ_eq_append_getElem hi, cntI_append, cntI_cons]
  simp [cntI]
set_option maxRecDepth 100000 in
set_option maxHeartbeats 4000000 in
theorem rRefs_any {w : World} {A : Option Addr} {n c : Nat} {l : List It} (h : Src w 73 (.slice A n c) n (itsC l)) (hl : l.length = n) (hn : n ≤ 100000000) (K : Key) :
    Calls Tryz.prog 87 #[.slice A n c, .agg (keyL K).toArray] w fun e w' => e = .returned (.int .i64 (cntI l K)) ∧ Below w.heap.size w w' := by
  have H := Lib.hid h
  have HL := Lib.hid hl
  clear h hl
  go_enter Tryz.func87, Tryz.ntmps87
  go_upto_region 3 with (first
    | ((with_reducible show wpList _ _ _ (_ :: _) _ _); refine wpl_box rfl 50 (.tmp 1) (by rfl) (keyL K).toArray (by rfl) ?_; intro w1 hk hg hz; have K1 := Lib.hid hk; have L1 := Lib.hid (bl_n (Below.refl _ w) hg); clear hk hg hz; simp only [Act.put, List.setIfInBounds_toArray, List.set_cons_zero, List.set_cons_succ]))
  go_loopg [5, 6] n (fun k mv iv wr => ∃ (i : Nat) (m : Int), iv = .int .i64 (i : Int) ∧ mv = .int .i64 m ∧ i ≤ n ∧ i + k ≤ n ∧ n ≤ i + k ∧ m = cntI (l.take i) K ∧ 0 ≤ m ∧ m ≤ i ∧ Below w1.heap.size w1 wr)
  case atStart => exact ⟨0, 0, rfl, rfl, by omega, by omega, by omega, by simp [cntI], by omega, by omega, Below.refl _ _⟩
  case round =>
    obtain ⟨i, m, rfl, rfl, i1, i2, i3, ha, hm0, hm1, hb⟩ := hrel
    have HA := Lib.hid ha
    have LB := Lib.hid hb
    clear ha hb
    by_cases hi : i < n
    · have hiI : (i : Int) < (n : Int) := by omega
      have hil : i < l.length := by rw [HL.out]; exact hi
      obtain ⟨b, off, hA, hr⟩ := src_part itC_len (H.out.below (below_chain L1.out LB.out)) HL.out hil
      have HN := Lib.hid (cntI_take hil K)
      generalize l[i] = x at hr HN
      subst hA
      have k0 : wr.cell? ⟨b, off + i * 73, none⟩ = some (.int .u8 x.kind) := hr 0 _ rfl
      have RK := Lib.hid (rng_sub hr 39 (keyL x.sl.key) (itC_slkey x))
      have RB := Lib.hid (show wr.rangeAt w.heap.size 0 (keyL K) by have := (K1.out.below LB.out K1.out.lt).range; rwa [toArr] at this)
      clear hr hil
      have fq := fun w => key_eql x.sl.key K w
      by_cases h1 : x.kind = 2
      · have b1 : (x.kind == 2) = true := beq_iff_eq.2 h1
        by_cases h2 : x.sl.key = K
        · have HF := Lib.hid (show m + 1 = cntI (l.take (i + 1)) K by rw [HN.out, b1, decide_eq_true h2, HA.out]; rfl)
          have d1 : decide (x.sl.key = K) = true := decide_eq_true h2
          simp only [d1] at fq
          clear h1 h2 HN
          go_upto_region 5 with fail
          refine wp_region_qs (fun _ w' => w'.cell? ⟨b, off + i * 73, none⟩ = some (.int .u8 x.kind) ∧ w'.rangeAt b (off + i * 73 + 39) (keyL x.sl.key) ∧ w'.rangeAt w.heap.size 0 (keyL K)) [(0, some 0), (1, some 0), (2, some 0), (3, some 0), (4, some 0), (5, some 0), (6, some 0), (7, some 0), (8, some 0), (9, some 0), (10, some 0), (11, some 0), (12, some 0), (13, some 0), (14, some 0), (15, some 0)] (by kernel_rfl) (by kernel_rfl) (by kernel_rfl) (by kernel_rfl) (by kernel_rfl) (fun _ _ _ _ _ h => h) ⟨k0, RK.out, RB.out⟩ ?_
          simp only [List.map_cons, List.map_nil, List.getD_cons_succ, List.getD_cons_zero]
          (repeat (first | ((first | (refine qs_row (by rfl) 50 (.tmp 24) (by rfl) b (off + i * 73 + 39) (by rfl) (keyL x.sl.key) _ (fun j w' _ h2 h => h.2.1) Tryz.underlying50 rfl (keyL_info _) ?_) | (refine qs_row (by rfl) 50 (.tmp 3) (by rfl) w.heap.size 0 (by rfl) (keyL K) _ (fun j w' _ h2 h => h.2.2) Tryz.underlying50 rfl (keyL_info _) ?_)); simp only [Act.put, List.setIfInBounds_toArray, List.set_cons_zero, List.set_cons_succ]) | (refine qs_now (v := ?_) (by rfl) ?_ ?_; rotate_left 1; (· (intro w' hS; go_simp; (try (simp only [↓IntWalk.iteOmega]; go_simp)); (try simp (disch := omega) only [IntWalk.i64_in]); try with_reducible rfl)); simp only [Act.put, List.setIfInBounds_toArray, List.set_cons_zero, List.set_cons_succ]) | (refine qs_run (v := ?_) (by rfl) ?_ ?_; rotate_left 1; (· (intro j w' hS; go_simp; (try (simp only [↓IntWalk.iteOmega]; go_simp)); (try simp (disch := omega) only [IntWalk.i64_in]); try with_reducible rfl)); simp only [Act.put, List.setIfInBounds_toArray, List.set_cons_zero, List.set_cons_succ]) | (refine qs_mid (v := ?_) (by rfl) ?_ ?_; rotate_left 1; (· (intro j w' hj1 hj2 hS; go_simp; (try (simp only [↓IntWalk.iteOmega]; go_simp)); (try simp (disch := omega) only [IntWalk.i64_in]); try with_reducible rfl)); simp only [Act.put, List.setIfInBounds_toArray, List.set_cons_zero, List.set_cons_succ]) | (refine qs_skip (by rfl) ?_; simp only [Act.put, List.setIfInBounds_toArray, List.set_cons_zero, List.set_cons_succ])))
          refine qs_nil ?_
          go_wp2_with fail
          go_roundg (gk - 1)
          case measure => omega
          case rel => exact ⟨i + 1, m + 1, by congr 1, by congr 1, by omega, by omega, by omega, HF.out, by omega, by omega, LB.out.drew⟩
        · have HF := Lib.hid (show m = cntI (l.take (i + 1)) K by rw [HN.out, b1, decide_eq_false h2, HA.out]; simp)
          have d1 : decide (x.sl.key = K) = false := decide_eq_false h2
          simp only [d1] at fq
          clear h1 h2 HN
          go_upto_region 5 with fail
          refine wp_region_qs (fun _ w' => w'.cell? ⟨b, off + i * 73, none⟩ = some (.int .u8 x.kind) ∧ w'.rangeAt b (off + i * 73 + 39) (keyL x.sl.key) ∧ w'.rangeAt w.heap.size 0 (keyL K)) [(0, some 0), (1, some 0), (2, some 0), (3, some 0), (4, some 0), (5, some 0), (6, some 0), (7, some 0), (8, some 0), (9, some 0), (10, some 0), (11, some 0), (12, some 0), (13, some 0), (14, some 0), (15, some 0)] (by kernel_rfl) (by kernel_rfl) (by kernel_rfl) (by kernel_rfl) (by kernel_rfl) (fun _ _ _ _ _ h => h) ⟨k0, RK.out, RB.out⟩ ?_
          simp only [List.map_cons, List.map_nil, List.getD_cons_succ, List.getD_cons_zero]
          (repeat (first | ((first | (refine qs_row (by rfl) 50 (.tmp 24) (by rfl) b (off + i * 73 + 39) (by rfl) (keyL x.sl.key) _ (fun j w' _ h2 h => h.2.1) Tryz.underlying50 rfl (keyL_info _) ?_) | (refine qs_row (by rfl) 50 (.tmp 3) (by rfl) w.heap.size 0 (by rfl) (keyL K) _ (fun j w' _ h2 h => h.2.2) Tryz.underlying50 rfl (keyL_info _) ?_)); simp only [Act.put, List.setIfInBounds_toArray, List.set_cons_zero, List.set_cons_succ]) | (refine qs_now (v := ?_) (by rfl) ?_ ?_; rotate_left 1; (· (intro w' hS; go_simp; (try (simp only [↓IntWalk.iteOmega]; go_simp)); (try simp (disch := omega) only [IntWalk.i64_in]); try with_reducible rfl)); simp only [Act.put, List.setIfInBounds_toArray, List.set_cons_zero, List.set_cons_succ]) | (refine qs_run (v := ?_) (by rfl) ?_ ?_; rotate_left 1; (· (intro j w' hS; go_simp; (try (simp only [↓IntWalk.iteOmega]; go_simp)); (try simp (disch := omega) only [IntWalk.i64_in]); try with_reducible rfl)); simp only [Act.put, List.setIfInBounds_toArray, List.set_cons_zero, List.set_cons_succ]) | (refine qs_mid (v := ?_) (by rfl) ?_ ?_; rotate_left 1; (· (intro j w' hj1 hj2 hS; go_simp; (try (simp only [↓IntWalk.iteOmega]; go_simp)); (try simp (disch := omega) only [IntWalk.i64_in]); try with_reducible rfl)); simp only [Act.put, List.setIfInBounds_toArray, List.set_cons_zero, List.set_cons_succ]) | (refine qs_skip (by rfl) ?_; simp only [Act.put, List.setIfInBounds_toArray, List.set_cons_zero, List.set_cons_succ])))
          refine qs_nil ?_
          go_wp2_with fail
          go_roundg (gk - 1)
          case measure => omega
          case rel => exact ⟨i + 1, m, by congr 1, rfl, by omega, by omega, by omega, HF.out, by omega, by omega, LB.out.drew⟩
      · have b1 : (x.kind == 2) = false := beq_eq_false_iff_ne.2 h1
        have HF := Lib.hid (show m = cntI (l.take (i + 1)) K by rw [HN.out, b1, HA.out]; simp)
        clear h1 HN
        go_upto_region 5 with fail
        refine wp_region_qs (fun _ w' => w'.cell? ⟨b, off + i * 73, none⟩ = some (.int .u8 x.kind) ∧ w'.rangeAt b (off + i * 73 + 39) (keyL x.sl.key) ∧ w'.rangeAt w.heap.size 0 (keyL K)) [(0, some 0), (1, some 0), (2, some 0), (3, some 0), (4, some 0), (5, some 0), (6, some 0), (7, some 0), (8, some 0), (9, some 0), (10, some 0), (11, some 0), (12, some 0), (13, some 0), (14, some 0), (15, some 0)] (by kernel_rfl) (by kernel_rfl) (by kernel_rfl) (by kernel_rfl) (by kernel_rfl) (fun _ _ _ _ _ h => h) ⟨k0, RK.out, RB.out⟩ ?_
        simp only [List.map_cons, List.map_nil, List.getD_cons_succ, List.getD_cons_zero]
        (repeat (first | ((first | (refine qs_row (by rfl) 50 (.tmp 24) (by rfl) b (off + i * 73 + 39) (by rfl) (keyL x.sl.key) _ (fun j w' _ h2 h => h.2.1) Tryz.underlying50 rfl (keyL_info _) ?_) | (refine qs_row (by rfl) 50 (.tmp 3) (by rfl) w.heap.size 0 (by rfl) (keyL K) _ (fun j w' _ h2 h => h.2.2) Tryz.underlying50 rfl (keyL_info _) ?_)); simp only [Act.put, List.setIfInBounds_toArray, List.set_cons_zero, List.set_cons_succ]) | (refine qs_now (v := ?_) (by rfl) ?_ ?_; rotate_left 1; (· (intro w' hS; go_simp; (try (simp only [↓IntWalk.iteOmega]; go_simp)); (try simp (disch := omega) only [IntWalk.i64_in]); try with_reducible rfl)); simp only [Act.put, List.setIfInBounds_toArray, List.set_cons_zero, List.set_cons_succ]) | (refine qs_run (v := ?_) (by rfl) ?_ ?_; rotate_left 1; (· (intro j w' hS; go_simp; (try (simp only [↓IntWalk.iteOmega]; go_simp)); (try simp (disch := omega) only [IntWalk.i64_in]); try with_reducible rfl)); simp only [Act.put, List.setIfInBounds_toArray, List.set_cons_zero, List.set_cons_succ]) | (refine qs_mid (v := ?_) (by rfl) ?_ ?_; rotate_left 1; (· (intro j w' hj1 hj2 hS; go_simp; (try (simp only [↓IntWalk.iteOmega]; go_simp)); (try simp (disch := omega) only [IntWalk.i64_in]); try with_reducible rfl)); simp only [Act.put, List.setIfInBounds_toArray, List.set_cons_zero, List.set_cons_succ]) | (refine qs_skip (by rfl) ?_; simp only [Act.put, List.setIfInBounds_toArray, List.set_cons_zero, List.set_cons_succ])))
        refine qs_nil ?_
        go_wp2_with fail
        go_roundg (gk - 1)
        case measure => omega
        case rel => exact ⟨i + 1, m, by congr 1, rfl, by omega, by omega, by omega, HF.out, by omega, by omega, LB.out.drew⟩
    · have hiI : ¬ (i : Int) < (n : Int) := by omega
      have HF := Lib.hid (show m = cntI l K by
        have := HA.out
        rw [List.take_of_length_le (by rw [HL.out]; omega)] at this
        exact this)
      go_wp2_with fail
      go_ret
      exact ⟨by rw [← HF.out]; rfl, below_chain L1.out LB.out⟩
/-- The place of a key's item. -/
def ExtZ (l : List It) (K : Key) (z : Int) : Prop := (extI l K = none ∧ z = -1) ∨ ∃ (j : Nat) (hj : j < l.length), extI l K = some l[j] ∧ z = (j : Int)
theorem ExtZ.none {l : List It} {K : Key} {z : Int} (h : ExtZ l K z) (hn : extI l K = none) : z = -1 := by
  rcases h with ⟨_, h⟩ | ⟨j, hj, h, _⟩
  · exact h
  · rw [hn] at h; cases h
theorem ExtZ.some {l : List It} {K : Key} {z : Int} (h : ExtZ l K z) {x : It} (hx : extI l K = some x) : ∃ (j : Nat) (hj : j < l.length), l[j] = x ∧ z = (j : Int) := by
  rcases h with ⟨h, _⟩ | ⟨j, hj, h, hz⟩
  · rw [hx] at h; cases h
  · rw [hx] at h
    injection h with h
    exact ⟨j, hj, h.symm, hz⟩
def ExtPost (l : List It) (K : Key) (w : World) (e : Ending) (w' : World) : Prop := ∃ z : Int, e = .returned (.int .i64 z) ∧ ExtZ l K z ∧ Below w.heap.size w w'
set_option maxRecDepth 100000 in
set_option maxHeartbeats 4000000 in
theorem rExt_any {w : World} {A : Option Addr} {n c : Nat} {l : List It} (h : Src w 73 (.slice A n c) n (itsC l)) (hl : l.length = n) (hn : n ≤ 100000000) (K : Key) :
    Calls Tryz.prog 88 #[.slice A n c, .agg (keyL K).toArray] w (ExtPost l K w) := by
  have H := Lib.hid h
  have HL := Lib.hid hl
  clear h hl
  go_enter Tryz.func88, Tryz.ntmps88
  go_upto_region 2 with (first
    | ((with_reducible show wpList _ _ _ (_ :: _) _ _); refine wpl_box rfl 50 (.tmp 1) (by rfl) (keyL K).toArray (by rfl) ?_; intro w1 hk hg hz; have K1 := Lib.hid hk; have L1 := Lib.hid (bl_n (Below.refl _ w) hg); clear hk hg hz; simp only [Act.put, List.setIfInBounds_toArray, List.set_cons_zero, List.set_cons_succ]))
  go_loopg [5] n (fun k iv wr => ∃ i : Nat, iv = .int .i64 (i : Int) ∧ i ≤ n ∧ i + k ≤ n ∧ n ≤ i + k ∧ (l.take i).any (isExt K) = false ∧ Below w1.heap.size w1 wr)
  case atStart => exact ⟨0, rfl, by omega, by omega, by omega, by simp, Below.refl _ _⟩
  case round =>
    obtain ⟨i, rfl, i1, i2, i3, ha, hb⟩ := hrel
    have HA := Lib.hid ha
    have LB := Lib.hid hb
    clear ha hb
    by_cases hi : i < n
    · have hiI : (i : Int) < (n : Int) := by omega
      have hil : i < l.length := by rw [HL.out]; exact hi
      obtain ⟨b, off, hA, hr⟩ := src_part itC_len (H.out.below (below_chain L1.out LB.out)) HL.out hil
      have HN := Lib.hid (fun h => any_next (p := isExt K) hil HA.out h)
      have HT := Lib.hid (show isExt K l[i] = true → ExtZ l K (i : Int) from fun h => .inr ⟨i, hil, find_hit hil HA.out h, rfl⟩)
      generalize l[i] = x at hr HN HT
      subst hA
      have k0 : wr.cell? ⟨b, off + i * 73, none⟩ = some (.int .u8 x.kind) := hr 0 _ rfl
      have RK := Lib.hid (rng_sub hr 1 (keyL x.key) (it_key x))
      have RB := Lib.hid (show wr.rangeAt w.heap.size 0 (keyL K) by have := (K1.out.below LB.out K1.out.lt).range; rwa [toArr] at this)
      clear hr hil
      have fq := fun w => key_eql x.key K w
      by_cases h1 : x.kind = 1
      · have b1 : (x.kind == 1) = true := beq_iff_eq.2 h1
        by_cases h2 : x.key = K
        · have HF := Lib.hid (HT.out (show isExt K x = true by unfold isExt; rw [b1, decide_eq_true h2]; rfl))
          have d1 : decide (x.key = K) = true := decide_eq_true h2
          simp only [d1] at fq
          clear h1 h2 HN HT
          go_upto_region 4 with fail
          refine wp_region_qs (fun _ w' => w'.cell? ⟨b, off + i * 73, none⟩ = some (.int .u8 x.kind) ∧ w'.rangeAt b (off + i * 73 + 1) (keyL x.key) ∧ w'.rangeAt w.heap.size 0 (keyL K)) [(0, some 0), (1, some 0), (2, some 0), (3, some 0), (4, some 0), (5, some 0), (6, some 0), (7, some 0), (8, some 0), (9, some 0), (10, some 0), (11, some 0), (12, some 0), (13, some 0), (14, some 0)] (by kernel_rfl) (by kernel_rfl) (by kernel_rfl) (by kernel_rfl) (by kernel_rfl) (fun _ _ _ _ _ h => h) ⟨k0, RK.out, RB.out⟩ ?_
          simp only [List.map_cons, List.map_nil, List.getD_cons_succ, List.getD_cons_zero]
          (repeat (first | ((first | (refine qs_row (by rfl) 50 (.tmp 22) (by rfl) b (off + i * 73 + 1) (by rfl) (keyL x.key) _ (fun j w' _ h2 h => h.2.1) Tryz.underlying50 rfl (keyL_info _) ?_) | (refine qs_row (by rfl) 50 (.tmp 3) (by rfl) w.heap.size 0 (by rfl) (keyL K) _ (fun j w' _ h2 h => h.2.2) Tryz.underlying50 rfl (keyL_info _) ?_)); simp only [Act.put, List.setIfInBounds_toArray, List.set_cons_zero, List.set_cons_succ]) | (refine qs_now (v := ?_) (by rfl) ?_ ?_; rotate_left 1; (· (intro w' hS; go_simp; (try (simp only [↓IntWalk.iteOmega]; go_simp)); (try simp (disch := omega) only [IntWalk.i64_in]); try with_reducible rfl)); simp only [Act.put, List.setIfInBounds_toArray, List.set_cons_zero, List.set_cons_succ]) | (refine qs_run (v := ?_) (by rfl) ?_ ?_; rotate_left 1; (· (intro j w' hS; go_simp; (try (simp only [↓IntWalk.iteOmega]; go_simp)); (try simp (disch := omega) only [IntWalk.i64_in]); try with_reducible rfl)); simp only [Act.put, List.setIfInBounds_toArray, List.set_cons_zero, List.set_cons_succ]) | (refine qs_mid (v := ?_) (by rfl) ?_ ?_; rotate_left 1; (· (intro j w' hj1 hj2 hS; go_simp; (try (simp only [↓IntWalk.iteOmega]; go_simp)); (try simp (disch := omega) only [IntWalk.i64_in]); try with_reducible rfl)); simp only [Act.put, List.setIfInBounds_toArray, List.set_cons_zero, List.set_cons_succ]) | (refine qs_skip (by rfl) ?_; simp only [Act.put, List.setIfInBounds_toArray, List.set_cons_zero, List.set_cons_succ])))
          refine qs_nil ?_
          go_wp2_with fail
          go_ret
          exact ⟨_, rfl, HF.out, below_chain L1.out LB.out.drew⟩
        · have HF := Lib.hid (HN.out (show isExt K x = false by unfold isExt; rw [b1, decide_eq_false h2]; rfl))
          have d1 : decide (x.key = K) = false := decide_eq_false h2
          simp only [d1] at fq
          clear h1 h2 HN HT
          go_upto_region 4 with fail
          refine wp_region_qs (fun _ w' => w'.cell? ⟨b, off + i * 73, none⟩ = some (.int .u8 x.kind) ∧ w'.rangeAt b (off + i * 73 + 1) (keyL x.key) ∧ w'.rangeAt w.heap.size 0 (keyL K)) [(0, some 0), (1, some 0), (2, some 0), (3, some 0), (4, some 0), (5, some 0), (6, some 0), (7, some 0), (8, some 0), (9, some 0), (10, some 0), (11, some 0), (12, some 0), (13, some 0), (14, some 0)] (by kernel_rfl) (by kernel_rfl) (by kernel_rfl) (by kernel_rfl) (by kernel_rfl) (fun _ _ _ _ _ h => h) ⟨k0, RK.out, RB.out⟩ ?_
          simp only [List.map_cons, List.map_nil, List.getD_cons_succ, List.getD_cons_zero]
          (repeat (first | ((first | (refine qs_row (by rfl) 50 (.tmp 22) (by rfl) b (off + i * 73 + 1) (by rfl) (keyL x.key) _ (fun j w' _ h2 h => h.2.1) Tryz.underlying50 rfl (keyL_info _) ?_) | (refine qs_row (by rfl) 50 (.tmp 3) (by rfl) w.heap.size 0 (by rfl) (keyL K) _ (fun j w' _ h2 h => h.2.2) Tryz.underlying50 rfl (keyL_info _) ?_)); simp only [Act.put, List.setIfInBounds_toArray, List.set_cons_zero, List.set_cons_succ]) | (refine qs_now (v := ?_) (by rfl) ?_ ?_; rotate_left 1; (· (intro w' hS; go_simp; (try (simp only [↓IntWalk.iteOmega]; go_simp)); (try simp (disch := omega) only [IntWalk.i64_in]); try with_reducible rfl)); simp only [Act.put, List.setIfInBounds_toArray, List.set_cons_zero, List.set_cons_succ]) | (refine qs_run (v := ?_) (by rfl) ?_ ?_; rotate_left 1; (· (intro j w' hS; go_simp; (try (simp only [↓IntWalk.iteOmega]; go_simp)); (try simp (disch := omega) only [IntWalk.i64_in]); try with_reducible rfl)); simp only [Act.put, List.setIfInBounds_toArray, List.set_cons_zero, List.set_cons_succ]) | (refine qs_mid (v := ?_) (by rfl) ?_ ?_; rotate_left 1; (· (intro j w' hj1 hj2 hS; go_simp; (try (simp only [↓IntWalk.iteOmega]; go_simp)); (try simp (disch := omega) only [IntWalk.i64_in]); try with_reducible rfl)); simp only [Act.put, List.setIfInBounds_toArray, List.set_cons_zero, List.set_cons_succ]) | (refine qs_skip (by rfl) ?_; simp only [Act.put, List.setIfInBounds_toArray, List.set_cons_zero, List.set_cons_succ])))
          refine qs_nil ?_
          go_wp2_with fail
          go_roundg (gk - 1)
          case measure => omega
          case rel => exact ⟨i + 1, by congr 1, by omega, by omega, by omega, HF.out, LB.out.drew⟩
      · have b1 : (x.kind == 1) = false := beq_eq_false_iff_ne.2 h1
        have HF := Lib.hid (HN.out (show isExt K x = false by unfold isExt; rw [b1]; rfl))
        clear h1 HN HT
        go_upto_region 4 with fail
        refine wp_region_qs (fun _ w' => w'.cell? ⟨b, off + i * 73, none⟩ = some (.int .u8 x.kind) ∧ w'.rangeAt b (off + i * 73 + 1) (keyL x.key) ∧ w'.rangeAt w.heap.size 0 (keyL K)) [(0, some 0), (1, some 0), (2, some 0), (3, some 0), (4, some 0), (5, some 0), (6, some 0), (7, some 0), (8, some 0), (9, some 0), (10, some 0), (11, some 0), (12, some 0), (13, some 0), (14, some 0)] (by kernel_rfl) (by kernel_rfl) (by kernel_rfl) (by kernel_rfl) (by kernel_rfl) (fun _ _ _ _ _ h => h) ⟨k0, RK.out, RB.out⟩ ?_
        simp only [List.map_cons, List.map_nil, List.getD_cons_succ, List.getD_cons_zero]
        (repeat (first | ((first | (refine qs_row (by rfl) 50 (.tmp 22) (by rfl) b (off + i * 73 + 1) (by rfl) (keyL x.key) _ (fun j w' _ h2 h => h.2.1) Tryz.underlying50 rfl (keyL_info _) ?_) | (refine qs_row (by rfl) 50 (.tmp 3) (by rfl) w.heap.size 0 (by rfl) (keyL K) _ (fun j w' _ h2 h => h.2.2) Tryz.underlying50 rfl (keyL_info _) ?_)); simp only [Act.put, List.setIfInBounds_toArray, List.set_cons_zero, List.set_cons_succ]) | (refine qs_now (v := ?_) (by rfl) ?_ ?_; rotate_left 1; (· (intro w' hS; go_simp; (try (simp only [↓IntWalk.iteOmega]; go_simp)); (try simp (disch := omega) only [IntWalk.i64_in]); try with_reducible rfl)); simp only [Act.put, List.setIfInBounds_toArray, List.set_cons_zero, List.set_cons_succ]) | (refine qs_run (v := ?_) (by rfl) ?_ ?_; rotate_left 1; (· (intro j w' hS; go_simp; (try (simp only [↓IntWalk.iteOmega]; go_simp)); (try simp (disch := omega) only [IntWalk.i64_in]); try with_reducible rfl)); simp only [Act.put, List.setIfInBounds_toArray, List.set_cons_zero, List.set_cons_succ]) | (refine qs_mid (v := ?_) (by rfl) ?_ ?_; rotate_left 1; (· (intro j w' hj1 hj2 hS; go_simp; (try (simp only [↓IntWalk.iteOmega]; go_simp)); (try simp (disch := omega) only [IntWalk.i64_in]); try with_reducible rfl)); simp only [Act.put, List.setIfInBounds_toArray, List.set_cons_zero, List.set_cons_succ]) | (refine qs_skip (by rfl) ?_; simp only [Act.put, List.setIfInBounds_toArray, List.set_cons_zero, List.set_cons_succ])))
        refine qs_nil ?_
        go_wp2_with fail
        go_roundg (gk - 1)
        case measure => omega
        case rel => exact ⟨i + 1, by congr 1, by omega, by omega, by omega, HF.out, LB.out.drew⟩
    · have hiI : ¬ (i : Int) < (n : Int) := by omega
      have HF := Lib.hid (show extI l K = none from find_end (by rw [HL.out]; omega) HA.out)
      go_wp2_with fail
      go_ret
      exact ⟨_, rfl, .inl ⟨HF.out, rfl⟩, below_chain L1.out LB.out⟩
end Go.Proofs.YtgjjdfhoakailaaGreat
namespace Go.Proofs.YtgjjdfhoakailaaGreat
open Go.RowKit Go.Maps Go.Sort Go.Shelf
set_option linter.unusedVariables false
set_option linter.unusedSimpArgs false

end Go.Proofs.YtgjjdfhoakailaaGreat
namespace Go.Proofs.YtgjjdfhoakailaaGreat
open Go.RowKit Go.Maps Go.Sort Go.Shelf
set_option linter.unusedVariables false
set_option linter.unusedSimpArgs false

theorem within14 {n a b : Int} {q : Bool} (hq : q = inB n a b) (w : World) : Calls Tryz.prog 113 #[.int .i64 n, .int .i64 a, .int .i64 b] w fun e w' => e = .returned (.bool q) ∧ w = w' := by
  subst hq
  unfold inB
  by_cases h1 : a ≤ n
  · by_cases h2 : n ≤ b
    · rw [decide_eq_true (And.intro h1 h2)]
      go_enter Tryz.func113, Tryz.ntmps113
      go_wp2_with fail
      go_ret
      simp [h1, h2]
    · rw [decide_eq_false (fun h => h2 h.2)]
      go_enter Tryz.func113, Tryz.ntmps113
      go_wp2_with fail
      go_ret
      simp [h1, h2]
  · rw [decide_eq_false (fun h => h1 h.1)]
    go_enter Tryz.func113, Tryz.ntmps113
    go_wp2_with fail
    go_ret
    simp [h1]
def placeB (p : Pl) (rb : Bool) : Bool := inB p.pos 0 262144 && inB p.sec 1 1024 && inB p.uni 1 16 && (if rb then inB p.ref 1 2147483647 else decide (p.ref = 0))
theorem plC_infoB (p : Pl) : (Tryz.prog.info? 52).map (·.size) = some (plC p).length := by rw [plC_len]; kernel_rfl
set_option maxRecDepth 100000 in
set_option maxHeartbeats 2000000 in
theorem place14 {w : World} (p : Pl) (rb : Bool) : Calls Tryz.prog 112 #[.agg (plC p).toArray, .bool rb] w fun e w' => e = .returned (.bool (placeB p rb)) ∧ Below w.heap.size w w' := by
  unfold placeB
  obtain ⟨b1, h1⟩ : ∃ q, q = inB p.pos 0 262144 := ⟨_, rfl⟩
  obtain ⟨b2, h2⟩ : ∃ q, q = inB p.sec 1 1024 := ⟨_, rfl⟩
  obtain ⟨b3, h3⟩ : ∃ q, q = inB p.uni 1 16 := ⟨_, rfl⟩
  obtain ⟨b4, h4⟩ : ∃ q, q = inB p.ref 1 2147483647 := ⟨_, rfl⟩
  obtain ⟨z, hz⟩ : ∃ z : Bool, z = decide (p.ref = 0) := ⟨_, rfl⟩
  have e0 : (p.ref == 0) = z := by rw [hz]; rfl
  rw [← h1, ← h2, ← h3, ← h4, ← hz]
  have H1 := Lib.hid h1
  have H2 := Lib.hid h2
  have H3 := Lib.hid h3
  have H4 := Lib.hid h4
  clear h1 h2 h3 h4 hz
  have hb : b1 = false ∨ (b1 = true ∧ b2 = false) ∨ (b1 = true ∧ b2 = true ∧ b3 = false) ∨ (b1 = true ∧ b2 = true ∧ b3 = true) := by
    cases b1 <;> cases b2 <;> cases b3 <;> simp
  go_enter Tryz.func112, Tryz.ntmps112
  go_upto_region 1 with (first
    | ((with_reducible show wpList _ _ _ (_ :: _) _ _); refine wpl_box rfl 52 (.tmp 0) (by rfl) (plC p).toArray (by rfl) ?_; intro w1 hk hg hz; have K1 := Lib.hid hk; have L1 := Lib.hid (bl_n (Below.refl _ w) hg); clear hk hg hz; simp only [Act.put, List.setIfInBounds_toArray, List.set_cons_zero, List.set_cons_succ]))
  have c0 := K1.out.cell (i := 0) (v := .int .i64 p.pos) rfl
  have c1 := K1.out.cell (i := 1) (v := .int .i64 p.sec) rfl
  have c2 := K1.out.cell (i := 2) (v := .int .i64 p.uni) rfl
  have c3 := K1.out.cell (i := 3) (v := .int .i64 p.ref) rfl
  rcases hb with rfl | ⟨rfl, rfl⟩ | ⟨rfl, rfl, rfl⟩ | ⟨rfl, rfl, rfl⟩ <;> cases rb
  all_goals
    go_wp2_with (first
      | (have _q := T3.out; clear _q; go_at_call 113; refine (within14 H4.out _).mono ?_; rintro e wX ⟨rfl, rfl⟩)
      | (have _q := T2.out; clear _q; go_at_call 113; refine (within14 H3.out _).mono ?_; rintro e wX ⟨rfl, rfl⟩; have T3 := Lib.hid trivial)
      | (have _q := T1.out; clear _q; go_at_call 113; refine (within14 H2.out _).mono ?_; rintro e wX ⟨rfl, rfl⟩; have T2 := Lib.hid trivial)
      | (go_at_call 113; refine (within14 H1.out _).mono ?_; rintro e wX ⟨rfl, rfl⟩; have T1 := Lib.hid trivial))
    go_ret
    exact ⟨rfl, L1.out⟩
def sliceB (s : Sl) : Bool := inB s.off 0 15 && inB s.mask 1 255
theorem slC_a32 (s : Sl) : (slC s).toArray[32]? = some (.int .i64 s.off) := by
  rw [List.getElem?_toArray]
  unfold slC
  rw [List.getElem?_append_right (by simp [keyL_len])]
  simp [keyL_len]
theorem slC_a33 (s : Sl) : (slC s).toArray[33]? = some (.int .i64 s.mask) := by
  rw [List.getElem?_toArray]
  unfold slC
  rw [List.getElem?_append_right (by simp [keyL_len])]
  simp [keyL_len]
set_option maxRecDepth 100000 in
set_option maxHeartbeats 2000000 in
theorem slice14 {w : World} (p : Sl) : Calls Tryz.prog 114 #[.agg (slC p).toArray] w fun e w' => e = .returned (.bool (sliceB p)) ∧ Below w.heap.size w w' := by
  unfold sliceB
  obtain ⟨b1, h1⟩ : ∃ q, q = inB p.off 0 15 := ⟨_, rfl⟩
  obtain ⟨b2, h2⟩ : ∃ q, q = inB p.mask 1 255 := ⟨_, rfl⟩
  rw [← h1, ← h2]
  have H1 := Lib.hid h1
  have H2 := Lib.hid h2
  clear h1 h2
  cases b1
  · skip
    go_enter Tryz.func114, Tryz.ntmps114
    go_upto_region 1 with (first
      | ((with_reducible show wpList _ _ _ (_ :: _) _ _); refine wpl_box rfl 54 (.tmp 0) (by rfl) (slC p).toArray (by rfl) ?_; intro w1 hk hg hz; have K1 := Lib.hid hk; have L1 := Lib.hid (bl_n (Below.refl _ w) hg); clear hk hg hz; simp only [Act.put, List.setIfInBounds_toArray, List.set_cons_zero, List.set_cons_succ]))
    have c0 := K1.out.cell (slC_a32 p)
    have c1 := K1.out.cell (slC_a33 p)
    go_wp2_with (first
      | (have _q := T1.out; clear _q; go_at_call 113; refine (within14 H2.out _).mono ?_; rintro e wX ⟨rfl, rfl⟩; have T2 := Lib.hid trivial)
      | (go_at_call 113; refine (within14 H1.out _).mono ?_; rintro e wX ⟨rfl, rfl⟩; have T1 := Lib.hid trivial))
    go_ret
    exact ⟨rfl, L1.out⟩
  · cases b2
    · skip
      go_enter Tryz.func114, Tryz.ntmps114
      go_upto_region 1 with (first
        | ((with_reducible show wpList _ _ _ (_ :: _) _ _); refine wpl_box rfl 54 (.tmp 0) (by rfl) (slC p).toArray (by rfl) ?_; intro w1 hk hg hz; have K1 := Lib.hid hk; have L1 := Lib.hid (bl_n (Below.refl _ w) hg); clear hk hg hz; simp only [Act.put, List.setIfInBounds_toArray, List.set_cons_zero, List.set_cons_succ]))
      have c0 := K1.out.cell (slC_a32 p)
      have c1 := K1.out.cell (slC_a33 p)
      go_wp2_with (first
        | (have _q := T1.out; clear _q; go_at_call 113; refine (within14 H2.out _).mono ?_; rintro e wX ⟨rfl, rfl⟩; have T2 := Lib.hid trivial)
        | (go_at_call 113; refine (within14 H1.out _).mono ?_; rintro e wX ⟨rfl, rfl⟩; have T1 := Lib.hid trivial))
      go_ret
      exact ⟨rfl, L1.out⟩
    · skip
      go_enter Tryz.func114, Tryz.ntmps114
      go_upto_region 1 with (first
        | ((with_reducible show wpList _ _ _ (_ :: _) _ _); refine wpl_box rfl 54 (.tmp 0) (by rfl) (slC p).toArray (by rfl) ?_; intro w1 hk hg hz; have K1 := Lib.hid hk; have L1 := Lib.hid (bl_n (Below.refl _ w) hg); clear hk hg hz; simp only [Act.put, List.setIfInBounds_toArray, List.set_cons_zero, List.set_cons_succ]))
      have c0 := K1.out.cell (slC_a32 p)
      have c1 := K1.out.cell (slC_a33 p)
      go_wp2_with (first
        | (have _q := T1.out; clear _q; go_at_call 113; refine (within14 H2.out _).mono ?_; rintro e wX ⟨rfl, rfl⟩; have T2 := Lib.hid trivial)
        | (go_at_call 113; refine (within14 H1.out _).mono ?_; rintro e wX ⟨rfl, rfl⟩; have T1 := Lib.hid trivial))
      go_ret
      exact ⟨rfl, L1.out⟩
end Go.Proofs.YtgjjdfhoakailaaGreat
