/-
  what this claim needs of: StL (written by cut.py).
-/
import Derived.Test.YtgjjdfhoakailaaGreatBStT5
import Derived.Test.YtgjjdfhoakailaaGreatBStT3
namespace Go.Proofs.YtgjjdfhoakailaaGreat
open Go.RowKit Go.Maps Go.Sort Go.Shelf
set_option linter.unusedVariables false
set_option linter.unusedSimpArgs false

def isExt (K : Key) (i : It) : Bool := i.kind == 1 && decide (i.key = K)
def extI (l : List It) (K : Key) : Option It := l.find? (isExt K)
def snapB (l : List It) (id : Int) : Bool := l.any (fun i => i.kind == 3 && decide (i.snap = id))
def settle1 (l : List It) (i : It) : Option It := if i.kind = 1 then (if cntI l i.key = 0 then none else some ⟨i.kind, i.key, ⟨i.pl.pos, i.pl.sec, i.pl.uni, cntI l i.key⟩, i.snap, i.unit, i.sl⟩) else some i
def settledL (l : List It) : List It := l.filterMap (settle1 l)
def outB (id a b : Int) (i : It) : Bool := i.kind != 2 || !decide (i.snap = id) || decide (i.unit < a) || decide (b ≤ i.unit)
def withoutL (l : List It) (id a b : Int) : List It := l.filter (outB id a b)
def copiedL (l : List It) (a b : Int) : List It := (l.filter (fun i => i.kind == 2 && decide (i.snap = a))).map (fun i => ⟨i.kind, i.key, i.pl, b, i.unit, i.sl⟩)
def frI (p : Fr) : It := ⟨1, p.key, p.pl, 0, 0, zSl⟩
def puI (p : Pu) : It := ⟨2, zKey, zPl, 0, p.unit, p.sl⟩
def putB (n : Int) (out : List It) (p : Pu) : Bool := decide (p.unit < n) && (match extI out p.sl.key with | none => false | some x => decide (p.sl.off < x.pl.uni))
def putL (out : List It) (p : Pu) : List It := withoutL out 0 p.unit (p.unit + 1) ++ [puI p]
def putsL (n : Int) : List It → List Pu → Option (List It)
  | out, [] => some out
  | out, p :: r => if putB n out p then putsL n (putL out p) r else none
def writeL (n : Int) (l : List It) (o : OpV) : List It × Int :=
  if o.news.any (fun p => (extI l p.key).isSome) then (l, 7)
  else match putsL n (l ++ o.news.map frI) o.puts with
    | none => (l, 2)
    | some out => if o.news.any (fun p => cntI out p.key == 0) then (l, 2) else (out, 0)
/-- The bits of a mask that stay: unit u, from a on, ahead of b. -/
def bitGo (u a b : Int) : Nat → Int → Int
  | 0, m => m
  | k + 1, m => if a ≤ 8 * u + k ∧ 8 * u + k < b then anM (bitGo u a b k m) ((2 : Int) ^ k) else bitGo u a b k m
def disc1 (a b : Int) (i : It) : Option It := if i.kind = 2 ∧ i.snap = 0 then (if bitGo i.unit a b 8 i.sl.mask = 0 then none else some ⟨i.kind, i.key, i.pl, i.snap, i.unit, ⟨i.sl.key, i.sl.off, bitGo i.unit a b 8 i.sl.mask⟩⟩) else some i
def discL (n : Int) (l : List It) (o : OpV) : List It × Int := if 8 * n < o.pos + o.n then (l, 2) else (l.filterMap (disc1 o.pos (o.pos + o.n)), 0)
def stepL (n : Int) (l : List It) (o : OpV) : List It × Int :=
  if o.kind = 1 then writeL n l o
  else if o.kind = 2 then discL n l o
  else if o.kind = 3 then (if snapB l o.snap then (l, 7) else if 8 ≤ snapsN l then (l, 14) else (l ++ copiedL l 0 o.snap ++ [snI o.snap], 0))
  else if o.kind = 4 then (if snapB l o.snap then ((withoutL l o.snap 0 512).filter (fun i => i.kind != 3 || !decide (i.snap = o.snap)), 0) else (l, 13))
  else (if snapB l o.snap then (withoutL l 0 0 512 ++ copiedL l o.snap 0, 0) else (l, 13))
def doL (n : Int) (l : List It) (o : OpV) : List It × Int :=
  if rightB o then (if (stepL n l o).2 = 0 then (settledL (stepL n l o).1, 0) else (l, (stepL n l o).2)) else (l, 4)
theorem Perm.cnt {l l' : List It} (h : l.Perm l') (K : Key) : cntI l K = cntI l' K := by unfold cntI; rw [(h.filter _).length_eq]
theorem Perm.snapB {l l' : List It} (h : l.Perm l') (id : Int) : snapB l id = Go.Proofs.YtgjjdfhoakailaaGreat.snapB l' id := by
  unfold Go.Proofs.YtgjjdfhoakailaaGreat.snapB
  rw [Bool.eq_iff_iff, List.any_eq_true, List.any_eq_true]
  exact ⟨fun ⟨x, hx, k⟩ => ⟨x, h.mem_iff.1 hx, k⟩, fun ⟨x, hx, k⟩ => ⟨x, h.mem_iff.2 hx, k⟩⟩
def sI (id : Int) (u : Nat) (s : Sl) : It := ⟨2, zKey, zPl, id, (u : Int), s⟩
def IdsR (M : SnM) : Prop := ∀ p ∈ M, 1 ≤ p.1 ∧ p.1 ≤ 1073741824
theorem sIds_iff {M : SnM} {id : Int} : id ∈ sIds M ↔ ∃ q ∈ M, q.1 = id := by
  rw [(sIds_perm M).mem_iff, List.mem_map]
theorem st_mem {n : Nat} {E : ExM} {f : MpF} {M : SnM} (hm : Uniq M) (hz : IdsR M) {x : It} :
    x ∈ stItems n E f M ↔ (∃ p ∈ E, x = exIt p) ∨ (∃ u, u < n ∧ (f u).mask ≠ 0 ∧ x = sI 0 u (f u)) ∨ (∃ q ∈ M, ∃ u, u < n ∧ (q.2.2 u).mask ≠ 0 ∧ x = sI q.1 u (q.2.2 u)) ∨ ∃ q ∈ M, x = snI q.1 := by
  unfold stItems
  rw [List.mem_append, xItems_mem, mItems_mem]
  constructor
  · rintro (h | ⟨id, hid, u, hu, h1, rfl⟩ | ⟨id, hid, rfl⟩)
    · exact .inl h
    · rcases List.mem_cons.1 hid with rfl | hid
      · exact .inr (.inl ⟨u, hu, h1, rfl⟩)
      · obtain ⟨q, hq, rfl⟩ := sIds_iff.1 hid
        rw [gAt_mem hm (fun p hp => (hz p hp).1) hq] at h1 ⊢
        exact .inr (.inr (.inl ⟨q, hq, u, hu, h1, rfl⟩))
    · obtain ⟨q, hq, rfl⟩ := sIds_iff.1 hid
      exact .inr (.inr (.inr ⟨q, hq, rfl⟩))
  · rintro (h | ⟨u, hu, h1, rfl⟩ | ⟨q, hq, u, hu, h1, rfl⟩ | ⟨q, hq, rfl⟩)
    · exact .inl h
    · exact .inr (.inl ⟨0, List.mem_cons_self .., u, hu, h1, rfl⟩)
    · refine .inr (.inl ⟨q.1, List.mem_cons_of_mem _ (sIds_iff.2 ⟨q, hq, rfl⟩), u, hu, ?_⟩)
      rw [gAt_mem hm (fun p hp => (hz p hp).1) hq]
      exact ⟨h1, rfl⟩
    · exact .inr (.inr ⟨q.1, sIds_iff.2 ⟨q, hq, rfl⟩, rfl⟩)
theorem st_nd {n : Nat} (hn : n ≤ 512) {E : ExM} (f : MpF) {M : SnM} (hE : Uniq E) (hu : Uniq M) (hz : IdsR M) : (stItems n E f M).Nodup := by
  have h := nd_st hn f hE hu hz
  exact (List.pairwise_map.1 h).imp (fun h e => h (by rw [e]))
theorem perm_of {l l' : List It} (h : l.Nodup) (h' : l'.Nodup) (hm : ∀ x, x ∈ l ↔ x ∈ l') : l.Perm l' := (List.perm_ext_iff_of_nodup h h').2 hm
theorem sI_inj {id id' : Int} {u u' : Nat} {s s' : Sl} (h : sI id u s = sI id' u' s') : id = id' ∧ u = u' ∧ s = s' := by
  unfold sI at h
  simp only [It.mk.injEq, true_and] at h
  exact ⟨h.1, by omega, h.2.2⟩
end Go.Proofs.YtgjjdfhoakailaaGreat
namespace Go.Proofs.YtgjjdfhoakailaaGreat
open Go.RowKit Go.Maps Go.Sort Go.Shelf
set_option linter.unusedVariables false
set_option linter.unusedSimpArgs false
section
variable {n : Nat} {E : ExM} {f : MpF} {M : SnM} {l : List It}
theorem ext_perm (hE : Uniq E) (hm : Uniq M) (hz : IdsR M) (h : l.Perm (stItems n E f M)) (K : Key) : extI l K = (aget E K).map (fun p => exIt (K, p)) := by
  unfold extI
  cases hg : aget E K with
  | none =>
    rw [List.find?_eq_none.2]
    · rfl
    · intro x hx hk
      unfold isExt at hk
      simp only [Bool.and_eq_true, decide_eq_true_eq, beq_iff_eq] at hk
      rcases (st_mem hm hz).1 (h.mem_iff.1 hx) with ⟨p, hp, rfl⟩ | ⟨u, _, _, rfl⟩ | ⟨q, _, u, _, _, rfl⟩ | ⟨q, _, rfl⟩
      · exact aget_none.1 hg p hp hk.2
      · exact absurd hk.1 (show ¬ (2 : Int) = 1 by decide)
      · exact absurd hk.1 (show ¬ (2 : Int) = 1 by decide)
      · exact absurd hk.1 (show ¬ (3 : Int) = 1 by decide)
  | some p =>
    have hx : exIt (K, p) ∈ l := h.mem_iff.2 ((st_mem hm hz).2 (.inl ⟨(K, p), aget_mem hg, rfl⟩))
    have hk : isExt K (exIt (K, p)) = true := by unfold isExt exIt; simp
    cases hf : l.find? (isExt K) with
    | none => exact absurd hk (List.find?_eq_none.1 hf _ hx)
    | some y =>
      have h1 := List.find?_some hf
      have h2 := List.mem_of_find?_eq_some hf
      unfold isExt at h1
      simp only [Bool.and_eq_true, decide_eq_true_eq, beq_iff_eq] at h1
      rcases (st_mem hm hz).1 (h.mem_iff.1 h2) with ⟨q, hq, rfl⟩ | ⟨u, _, _, rfl⟩ | ⟨q, _, u, _, _, rfl⟩ | ⟨q, _, rfl⟩
      · obtain ⟨K', p'⟩ := q
        have e : K' = K := h1.2
        subst e
        rw [aget_of_mem hE hq] at hg
        injection hg with hg
        subst hg
        rfl
      · exact absurd h1.1 (show ¬ (2 : Int) = 1 by decide)
      · exact absurd h1.1 (show ¬ (2 : Int) = 1 by decide)
      · exact absurd h1.1 (show ¬ (3 : Int) = 1 by decide)
theorem snap_perm (hm : Uniq M) (hz : IdsR M) (h : l.Perm (stItems n E f M)) (id : Int) : snapB l id = (aget M id).isSome := by
  unfold snapB
  cases hg : aget M id with
  | none =>
    rw [Option.isSome_none, List.any_eq_false]
    intro x hx hk
    simp only [Bool.and_eq_true, decide_eq_true_eq, beq_iff_eq] at hk
    rcases (st_mem hm hz).1 (h.mem_iff.1 hx) with ⟨p, hp, rfl⟩ | ⟨u, _, _, rfl⟩ | ⟨q, _, u, _, _, rfl⟩ | ⟨q, hq, rfl⟩
    · exact absurd hk.1 (show ¬ (1 : Int) = 3 by decide)
    · exact absurd hk.1 (show ¬ (2 : Int) = 3 by decide)
    · exact absurd hk.1 (show ¬ (2 : Int) = 3 by decide)
    · exact aget_none.1 hg q hq hk.2
  | some p =>
    rw [Option.isSome_some, List.any_eq_true]
    exact ⟨snI id, h.mem_iff.2 ((st_mem hm hz).2 (.inr (.inr (.inr ⟨(id, p), aget_mem hg, rfl⟩)))), by simp [snI]⟩
theorem snaps_perm (h : l.Perm (stItems n E f M)) : snapsN l = M.length := by
  rw [← snaps_st n E f M]
  unfold snapsN
  rw [(h.filter _).length_eq]
theorem cnt_x (E : ExM) (K : Key) : cntI (xItems E) K = 0 := by
  unfold cntI
  rw [List.filter_eq_nil_iff.2]
  · rfl
  · intro i hi
    obtain ⟨p, _, rfl⟩ := xItems_mem.1 hi
    simp [exIt]
theorem cnt_perm (h : l.Perm (stItems n E f M)) (K : Key) : cntI l K = cntI (mItems n f M) K := by
  rw [Perm.cnt h, stItems, cntI_append, cnt_x, Int.zero_add]
end
/-- Rows made item by item, each standing for what it stood for. -/
theorem fm_sub {g : It → Option It} (hg : ∀ x y, g x = some y → stT y = stT x) : ∀ l : List It, ((l.filterMap g).map stT).Sublist (l.map stT)
  | [] => List.Sublist.slnil
  | x :: l => by
    have ih := fm_sub hg l
    cases h : g x with
    | none => rw [List.filterMap_cons_none h, List.map_cons]; exact ih.cons _
    | some y => rw [List.filterMap_cons_some h, List.map_cons, List.map_cons, hg x y h]; exact ih.cons_cons _
theorem nd_of_st {l : List It} (h : (l.map stT).Nodup) : l.Nodup := (List.pairwise_map.1 h).imp (fun h e => h (by rw [e]))
theorem fm_nd {g : It → Option It} (hg : ∀ x y, g x = some y → stT y = stT x) {l : List It} (h : (l.map stT).Nodup) : (l.filterMap g).Nodup := nd_of_st (h.sublist (fm_sub hg l))
theorem settle_st (c : List It) (x y : It) (h : settle1 c x = some y) : stT y = stT x := by
  unfold settle1 at h
  split at h
  · split at h
    · cases h
    · injection h with h; subst h; rfl
  · injection h with h; subst h; rfl
theorem settle_x (c : List It) (p : Key × Pl) : settle1 c (exIt p) = if cntI c p.1 = 0 then none else some (exIt (p.1, ⟨p.2.pos, p.2.sec, p.2.uni, cntI c p.1⟩)) := rfl
theorem settle_s (c : List It) (id : Int) (u : Nat) (s : Sl) : settle1 c (sI id u s) = some (sI id u s) := rfl
theorem settle_n (c : List It) (id : Int) : settle1 c (snI id) = some (snI id) := rfl
theorem settled_perm {n : Nat} (hn : n ≤ 512) {E1 E' : ExM} {f' : MpF} {M' : SnM} {l : List It} {old : Key → Int} (hE : Uniq E1) (hI : Inv n E' f' M')
    (hg : ∀ K, aget E' K = (aget E1 K).bind (fun p => if cntI (mItems n f' M') K = 0 ∧ old K ≠ 0 then none else some ⟨p.pos, p.sec, p.uni, cntI (mItems n f' M') K⟩))
    (h : l.Perm (stItems n E1 f' M')) : (settledL l).Perm (stItems n E' f' M') := by
  have hm := hI.uniqM
  have hz : IdsR M' := hI.ids
  have hnd : (l.map stT).Nodup := ((h.map stT).nodup_iff).2 (nd_st hn f' hE hm hz)
  refine perm_of (fm_nd (settle_st l) hnd) (st_nd hn f' hI.uniq hm hz) (fun x => ?_)
  unfold settledL
  rw [List.mem_filterMap, st_mem hm hz]
  constructor
  · rintro ⟨y, hy, hs⟩
    rcases (st_mem hm hz).1 (h.mem_iff.1 hy) with ⟨p, hp, rfl⟩ | ⟨u, hu, h1, rfl⟩ | ⟨q, hq, u, hu, h1, rfl⟩ | ⟨q, hq, rfl⟩
    · rw [settle_x, cnt_perm h] at hs
      split at hs
      · cases hs
      · rename_i hc
        injection hs with hs
        subst hs
        have h2 := hg p.1
        rw [aget_of_mem hE (x := p.1) (v := p.2) hp, Option.bind_some, if_neg (fun h => hc h.1)] at h2
        exact .inl ⟨_, aget_mem h2, rfl⟩
    · rw [settle_s] at hs; injection hs with hs; subst hs; exact .inr (.inl ⟨u, hu, h1, rfl⟩)
    · rw [settle_s] at hs; injection hs with hs; subst hs; exact .inr (.inr (.inl ⟨q, hq, u, hu, h1, rfl⟩))
    · rw [settle_n] at hs; injection hs with hs; subst hs; exact .inr (.inr (.inr ⟨q, hq, rfl⟩))
  · rintro (⟨p, hp, rfl⟩ | ⟨u, hu, h1, rfl⟩ | ⟨q, hq, u, hu, h1, rfl⟩ | ⟨q, hq, rfl⟩)
    · obtain ⟨K, p⟩ := p
      have h2 := aget_of_mem hI.uniq hp
      have h3 := hI.ref K p h2
      rw [hg K] at h2
      cases h4 : aget E1 K with
      | none => rw [h4] at h2; cases h2
      | some p0 =>
        rw [h4, Option.bind_some, if_neg (fun h => by omega)] at h2
        injection h2 with h2
        refine ⟨exIt (K, p0), h.mem_iff.2 ((st_mem hm hz).2 (.inl ⟨(K, p0), aget_mem h4, rfl⟩)), ?_⟩
        rw [settle_x, cnt_perm h]
        show (if cntI (mItems n f' M') K = 0 then _ else _) = _
        rw [if_neg (by omega), h2]
    · exact ⟨_, h.mem_iff.2 ((st_mem hm hz).2 (.inr (.inl ⟨u, hu, h1, rfl⟩))), rfl⟩
    · exact ⟨_, h.mem_iff.2 ((st_mem hm hz).2 (.inr (.inr (.inl ⟨q, hq, u, hu, h1, rfl⟩)))), rfl⟩
    · exact ⟨_, h.mem_iff.2 ((st_mem hm hz).2 (.inr (.inr (.inr ⟨q, hq, rfl⟩)))), rfl⟩
end Go.Proofs.YtgjjdfhoakailaaGreat
namespace Go.Proofs.YtgjjdfhoakailaaGreat
open Go.RowKit Go.Maps Go.Sort Go.Shelf
set_option linter.unusedVariables false
set_option linter.unusedSimpArgs false
theorem out_x (id a b : Int) (p : Key × Pl) : outB id a b (exIt p) = true := rfl
theorem out_n (id a b i : Int) : outB id a b (snI i) = true := rfl
theorem out_s (id a b i : Int) (u : Nat) (s : Sl) : outB id a b (sI i u s) = true ↔ (i ≠ id ∨ (u : Int) < a ∨ b ≤ u) := by
  unfold outB sI
  simp only [Bool.or_eq_true, decide_eq_true_eq, Bool.not_eq_true', decide_eq_false_iff_not, bne_self_eq_false, Bool.false_eq_true, false_or]
  omega
section
variable {n : Nat} {E : ExM} {g : MpF} {M : SnM} {out : List It}
theorem put_perm (hn : n ≤ 512) (hE : Uniq E) (hm : Uniq M) (hz : IdsR M) (h : out.Perm (stItems n E g M)) {p : Pu} {u : Nat} (h0 : p.unit = (u : Int)) (h1 : u < n) (hs : p.sl.mask ≠ 0) : (putL out p).Perm (stItems n E (upd g u p.sl) M) := by
  have ep : puI p = sI 0 u p.sl := by unfold puI sI; rw [h0]
  have hnd : out.Nodup := h.nodup_iff.2 (st_nd hn g hE hm hz)
  refine perm_of ?_ (st_nd hn _ hE hm hz) (fun x => ?_)
  · unfold putL withoutL
    refine List.nodup_append.2 ⟨hnd.filter _, List.pairwise_singleton _ _, ?_⟩
    intro a ha b hb e
    rw [List.mem_singleton] at hb
    subst e
    rw [hb, List.mem_filter, ep, out_s, h0] at ha
    omega
  · unfold putL withoutL
    rw [List.mem_append, List.mem_filter, List.mem_singleton, h.mem_iff, st_mem hm hz, st_mem hm hz, ep, h0]
    constructor
    · rintro (⟨⟨q, hq, rfl⟩ | ⟨v, hv, k, rfl⟩ | ⟨q, hq, v, hv, k, rfl⟩ | ⟨q, hq, rfl⟩, ho⟩ | rfl)
      · exact .inl ⟨q, hq, rfl⟩
      · rw [out_s] at ho
        have hne : v ≠ u := by omega
        exact .inr (.inl ⟨v, hv, by unfold upd; rw [if_neg hne]; exact ⟨k, rfl⟩⟩)
      · exact .inr (.inr (.inl ⟨q, hq, v, hv, k, rfl⟩))
      · exact .inr (.inr (.inr ⟨q, hq, rfl⟩))
      · exact .inr (.inl ⟨u, h1, by unfold upd; rw [if_pos rfl]; exact ⟨hs, rfl⟩⟩)
    · rintro (⟨q, hq, rfl⟩ | ⟨v, hv, k, rfl⟩ | ⟨q, hq, v, hv, k, rfl⟩ | ⟨q, hq, rfl⟩)
      · exact .inl ⟨.inl ⟨q, hq, rfl⟩, out_x ..⟩
      · by_cases hvu : v = u
        · subst hvu
          right
          unfold upd
          rw [if_pos rfl]
        · unfold upd at k ⊢
          rw [if_neg hvu] at k ⊢
          exact .inl ⟨.inr (.inl ⟨v, hv, k, rfl⟩), (out_s ..).2 (by omega)⟩
      · exact .inl ⟨.inr (.inr (.inl ⟨q, hq, v, hv, k, rfl⟩)), (out_s ..).2 (.inl (by have := hz q hq; omega))⟩
      · exact .inl ⟨.inr (.inr (.inr ⟨q, hq, rfl⟩)), out_n ..⟩
end
/-- Extents added. -/
theorem add_perm {n : Nat} (hn : n ≤ 512) {E : ExM} {g : MpF} {M : SnM} (hE : Uniq E) (hm : Uniq M) (hz : IdsR M) {K : Key} {p : Pl} (hK : aget E K = none) {l : List It} (h : l.Perm (stItems n E g M)) : (l ++ [exIt (K, p)]).Perm (stItems n (aput E K p) g M) := by
  have hE' := hE.put K p
  have e : aput E K p = (K, p) :: E := by unfold aput; rw [adel_none hK]
  refine perm_of ?_ (st_nd hn _ hE' hm hz) (fun x => ?_)
  · refine List.nodup_append.2 ⟨h.nodup_iff.2 (st_nd hn g hE hm hz), List.pairwise_singleton _ _, ?_⟩
    intro a ha b hb e
    rw [List.mem_singleton] at hb
    subst e
    subst hb
    rcases (st_mem hm hz).1 (h.mem_iff.1 ha) with ⟨q, hq, e⟩ | ⟨v, hv, k, e⟩ | ⟨q, hq, v, hv, k, e⟩ | ⟨q, hq, e⟩
    · have e2 : K = q.1 := congrArg It.key e
      exact aget_none.1 hK q hq e2.symm
    · exact absurd (congrArg It.kind e) (show ¬ (1 : Int) = 2 by decide)
    · exact absurd (congrArg It.kind e) (show ¬ (1 : Int) = 2 by decide)
    · exact absurd (congrArg It.kind e) (show ¬ (1 : Int) = 3 by decide)
  · rw [List.mem_append, List.mem_singleton, h.mem_iff, st_mem hm hz, st_mem hm hz, e]
    constructor
    · rintro ((⟨q, hq, rfl⟩ | h | h | h) | rfl)
      · exact .inl ⟨q, List.mem_cons_of_mem _ hq, rfl⟩
      · exact .inr (.inl h)
      · exact .inr (.inr (.inl h))
      · exact .inr (.inr (.inr h))
      · exact .inl ⟨_, List.mem_cons_self .., rfl⟩
    · rintro (⟨q, hq, rfl⟩ | h | h | h)
      · rcases List.mem_cons.1 hq with rfl | hq
        · exact .inr rfl
        · exact .inl (.inl ⟨q, hq, rfl⟩)
      · exact .inl (.inr (.inl h))
      · exact .inl (.inr (.inr (.inl h)))
      · exact .inl (.inr (.inr (.inr h)))
/-- The bits from one on, ahead of another, taken out one by one. -/
def bitF (a b : Nat) : Nat → Int → Int
  | 0, m => m
  | k + 1, m => if a ≤ k ∧ k < b then anM (bitF a b k m) ((2 : Int) ^ k) else bitF a b k m
theorem bit_all : ∀ m, m < 256 → ∀ b, b < 9 → ∀ a, a < 9 → a < b → anM ((m : Nat) : Int) ((2 : Int) ^ b - (2 : Int) ^ a) = bitF a b 8 (m : Int) := by decide +kernel
theorem bit_go {u a b : Int} {c d : Nat} {m : Int} (h : ∀ k : Nat, k < 8 → ((a ≤ 8 * u + k ∧ 8 * u + k < b) ↔ (c ≤ k ∧ k < d))) : ∀ j, j ≤ 8 → bitGo u a b j m = bitF c d j m
  | 0, _ => rfl
  | j + 1, hj => by
    have ih : bitGo u a b j m = bitF c d j m := bit_go h j (by omega)
    unfold bitGo bitF
    rw [ih]
    by_cases hc : c ≤ j ∧ j < d
    · rw [if_pos hc, if_pos ((h j (by omega)).2 hc)]
    · rw [if_neg hc, if_neg (fun h2 => hc ((h j (by omega)).1 h2))]
theorem clrGo_at (k : Nat) : ∀ (f : MpF) (at_ en u : Nat), en ≤ at_ + k → clrGo k f at_ en u = if 8 * u + 8 ≤ at_ ∨ en ≤ 8 * u ∨ en ≤ at_ then f u else clr1 (f u) (max at_ (8 * u) - 8 * u) (min 8 (en - 8 * u)) := by
  induction k with
  | zero => intro f a e u h; rw [clrGo, if_pos (by omega)]
  | succ k ih =>
    intro f a e u h
    by_cases hlt : a < e
    · have ht : clrTo a e = min 8 (a % 8 + (e - a)) := rfl
      rw [clrGo, if_pos hlt, ih _ _ _ _ (by rw [ht]; omega)]
      have h8 : a + (clrTo a e - a % 8) = min (8 * (a / 8) + 8) e := by rw [ht]; omega
      rw [h8]
      by_cases hu : u = a / 8
      · subst hu
        rw [if_pos (by omega), if_neg (by omega)]
        unfold upd
        rw [if_pos rfl]
        have e1 : max a (8 * (a / 8)) - 8 * (a / 8) = a % 8 := by omega
        have e2 : min 8 (e - 8 * (a / 8)) = clrTo a e := by rw [ht]; omega
        rw [e1, e2]
      · unfold upd
        rw [if_neg hu]
        by_cases hc : 8 * u + 8 ≤ a ∨ e ≤ 8 * u ∨ e ≤ a
        · rw [if_pos hc, if_pos (by omega)]
        · rw [if_neg hc, if_neg (by omega)]
          have e1 : max (min (8 * (a / 8) + 8) e) (8 * u) = max a (8 * u) := by omega
          rw [e1]
    · rw [clrGo, if_neg hlt, if_pos (by omega)]
theorem bit_none {u a b : Int} {m : Int} (h : ∀ k : Nat, k < 8 → ¬ (a ≤ 8 * u + k ∧ 8 * u + k < b)) : ∀ j, j ≤ 8 → bitGo u a b j m = m
  | 0, _ => rfl
  | j + 1, hj => by
    have ih : bitGo u a b j m = m := bit_none h j (by omega)
    unfold bitGo
    rw [if_neg (h j (by omega)), ih]
/-- Clear, bit by bit. -/
theorem clr_bits {n : Nat} {f : MpF} {p m : Int} (hp : 0 ≤ p) (hm : 0 ≤ m) (hc : clrE n p m = 0) (u : Nat) (hb : 0 ≤ (f u).mask ∧ (f u).mask ≤ 255) :
    (clrF n f p m u).mask = bitGo (u : Int) p (p + m) 8 (f u).mask ∧ (bitGo (u : Int) p (p + m) 8 (f u).mask ≠ 0 → clrF n f p m u = ⟨(f u).key, (f u).off, bitGo (u : Int) p (p + m) 8 (f u).mask⟩) := by
  unfold clrF
  rw [if_pos hc, clrGo_at _ _ _ _ _ (by omega)]
  split
  · rename_i h
    have e : bitGo (u : Int) p (p + m) 8 (f u).mask = (f u).mask := bit_none (fun k hk => by omega) 8 (by omega)
    rw [e]
    exact ⟨rfl, fun _ => rfl⟩
  · rename_i h
    obtain ⟨c, hcc⟩ : ∃ c, c = max p.toNat (8 * u) - 8 * u := ⟨_, rfl⟩
    obtain ⟨d, hd⟩ : ∃ d, d = min 8 (p.toNat + m.toNat - 8 * u) := ⟨_, rfl⟩
    rw [← hcc, ← hd]
    have e1 : bitGo (u : Int) p (p + m) 8 (f u).mask = bitF c d 8 (f u).mask := bit_go (fun k hk => by omega) 8 (by omega)
    have e2 := bit_all (f u).mask.toNat (by omega) d (by omega) c (by omega) (by omega)
    have e3 : (((f u).mask.toNat : Nat) : Int) = (f u).mask := by omega
    rw [e3] at e2
    unfold clr1
    rw [e1, e2]
    split
    · rename_i h0
      exact ⟨h0.symm, fun h1 => absurd h0 h1⟩
    · exact ⟨rfl, fun _ => rfl⟩
end Go.Proofs.YtgjjdfhoakailaaGreat
namespace Go.Proofs.YtgjjdfhoakailaaGreat
open Go.RowKit Go.Maps Go.Sort Go.Shelf
set_option linter.unusedVariables false
set_option linter.unusedSimpArgs false
theorem disc_st (a b : Int) (x y : It) (h : disc1 a b x = some y) : stT y = stT x := by
  unfold disc1 at h
  split at h
  · split at h
    · cases h
    · injection h with h
      subst h
      rfl
  · injection h with h; subst h; rfl
theorem disc_x (a b : Int) (p : Key × Pl) : disc1 a b (exIt p) = some (exIt p) := rfl
theorem disc_n (a b i : Int) : disc1 a b (snI i) = some (snI i) := rfl
theorem disc_s (a b : Int) {i : Int} (hi : i ≠ 0) (u : Nat) (s : Sl) : disc1 a b (sI i u s) = some (sI i u s) := by
  unfold disc1 sI
  rw [if_neg (fun h => hi h.2)]
theorem disc_0 (a b : Int) (u : Nat) (s : Sl) : disc1 a b (sI 0 u s) = if bitGo (u : Int) a b 8 s.mask = 0 then none else some (sI 0 u ⟨s.key, s.off, bitGo (u : Int) a b 8 s.mask⟩) := by
  unfold disc1 sI
  rw [if_pos ⟨rfl, rfl⟩]
section
variable {n : Nat} {E : ExM} {f : MpF} {M : SnM} {l : List It}
theorem disc_perm (hn : n ≤ 512) (hE : Uniq E) (hm : Uniq M) (hz : IdsR M) (hw : ∀ u, 0 ≤ (f u).mask ∧ (f u).mask ≤ 255) (h : l.Perm (stItems n E f M)) {p m : Int} (hp : 0 ≤ p) (hp2 : 0 ≤ m) (hc : clrE n p m = 0) :
    (l.filterMap (disc1 p (p + m))).Perm (stItems n E (clrF n f p m) M) := by
  have hnd : (l.map stT).Nodup := ((h.map stT).nodup_iff).2 (nd_st hn f hE hm hz)
  refine perm_of (fm_nd (disc_st _ _) hnd) (st_nd hn _ hE hm hz) (fun x => ?_)
  rw [List.mem_filterMap, st_mem hm hz]
  constructor
  · rintro ⟨y, hy, hs⟩
    rcases (st_mem hm hz).1 (h.mem_iff.1 hy) with ⟨q, hq, rfl⟩ | ⟨u, hu, h1, rfl⟩ | ⟨q, hq, u, hu, h1, rfl⟩ | ⟨q, hq, rfl⟩
    · rw [disc_x] at hs; injection hs with hs; subst hs; exact .inl ⟨q, hq, rfl⟩
    · have hcl := clr_bits hp hp2 hc u (hw u)
      rw [disc_0] at hs
      split at hs
      · cases hs
      · rename_i h0
        injection hs with hs
        subst hs
        refine .inr (.inl ⟨u, hu, by rw [hcl.1]; exact h0, ?_⟩)
        rw [hcl.2 h0]
    · rw [disc_s _ _ (by have := hz q hq; omega)] at hs; injection hs with hs; subst hs; exact .inr (.inr (.inl ⟨q, hq, u, hu, h1, rfl⟩))
    · rw [disc_n] at hs; injection hs with hs; subst hs; exact .inr (.inr (.inr ⟨q, hq, rfl⟩))
  · rintro (⟨q, hq, rfl⟩ | ⟨u, hu, h1, rfl⟩ | ⟨q, hq, u, hu, h1, rfl⟩ | ⟨q, hq, rfl⟩)
    · exact ⟨_, h.mem_iff.2 ((st_mem hm hz).2 (.inl ⟨q, hq, rfl⟩)), rfl⟩
    · have hcl := clr_bits hp hp2 hc u (hw u)
      have hsub : SubSl (clrF n f p m u) (f u) := by
        unfold clrF
        rw [if_pos hc]
        exact clrGo_sub _ f _ _ hw u
      have h2 : (f u).mask ≠ 0 := by have h3 := hsub.1; have h4 := hsub.2.1; omega
      have h3 := h1
      rw [hcl.1] at h3
      refine ⟨_, h.mem_iff.2 ((st_mem hm hz).2 (.inr (.inl ⟨u, hu, h2, rfl⟩))), ?_⟩
      rw [disc_0, if_neg h3, hcl.2 h3]
    · exact ⟨_, h.mem_iff.2 ((st_mem hm hz).2 (.inr (.inr (.inl ⟨q, hq, u, hu, h1, rfl⟩)))), disc_s _ _ (by have := hz q hq; omega) _ _⟩
    · exact ⟨_, h.mem_iff.2 ((st_mem hm hz).2 (.inr (.inr (.inr ⟨q, hq, rfl⟩)))), rfl⟩
theorem copied_nd (h : l.Nodup) (a b : Int) : (copiedL l a b).Nodup := by
  unfold copiedL
  refine List.pairwise_map.2 ((h.filter _).imp_of_mem ?_)
  intro x y hx hy hne e
  rw [List.mem_filter] at hx hy
  simp only [Bool.and_eq_true, decide_eq_true_eq, beq_iff_eq] at hx hy
  simp only [It.mk.injEq] at e
  apply hne
  cases x; cases y
  simp only at hx hy e
  simp only [It.mk.injEq]
  exact ⟨e.1, e.2.1, e.2.2.1, by rw [hx.2.2, hy.2.2], e.2.2.2.2.1, e.2.2.2.2.2⟩
theorem copied_mem {a b : Int} {x : It} : x ∈ copiedL l a b ↔ ∃ i ∈ l, (i.kind = 2 ∧ i.snap = a) ∧ x = ⟨i.kind, i.key, i.pl, b, i.unit, i.sl⟩ := by
  unfold copiedL
  rw [List.mem_map]
  constructor
  · rintro ⟨i, hi, rfl⟩
    rw [List.mem_filter] at hi
    simp only [Bool.and_eq_true, decide_eq_true_eq, beq_iff_eq] at hi
    exact ⟨i, hi.1, hi.2, rfl⟩
  · rintro ⟨i, hi, hk, rfl⟩
    refine ⟨i, List.mem_filter.2 ⟨hi, ?_⟩, rfl⟩
    simp only [Bool.and_eq_true, decide_eq_true_eq, beq_iff_eq]
    exact hk
theorem copied_0 (hm : Uniq M) (hz : IdsR M) (h : l.Perm (stItems n E f M)) {b : Int} {x : It} : x ∈ copiedL l 0 b ↔ ∃ u, u < n ∧ (f u).mask ≠ 0 ∧ x = sI b u (f u) := by
  rw [copied_mem]
  constructor
  · rintro ⟨i, hi, hk, rfl⟩
    rcases (st_mem hm hz).1 (h.mem_iff.1 hi) with ⟨q, hq, rfl⟩ | ⟨u, hu, h1, rfl⟩ | ⟨q, hq, u, hu, h1, rfl⟩ | ⟨q, hq, rfl⟩
    · exact absurd hk.1 (show ¬ (1 : Int) = 2 by decide)
    · exact ⟨u, hu, h1, rfl⟩
    · have h2 : q.1 = 0 := hk.2
      have := hz q hq
      omega
    · exact absurd hk.1 (show ¬ (3 : Int) = 2 by decide)
  · rintro ⟨u, hu, h1, rfl⟩
    exact ⟨_, h.mem_iff.2 ((st_mem hm hz).2 (.inr (.inl ⟨u, hu, h1, rfl⟩))), ⟨rfl, rfl⟩, rfl⟩
theorem copied_s (hm : Uniq M) (hz : IdsR M) (h : l.Perm (stItems n E f M)) {q : Int × (Nat × MpF)} (hq : q ∈ M) {b : Int} {x : It} : x ∈ copiedL l q.1 b ↔ ∃ u, u < n ∧ (q.2.2 u).mask ≠ 0 ∧ x = sI b u (q.2.2 u) := by
  rw [copied_mem]
  constructor
  · rintro ⟨i, hi, hk, rfl⟩
    rcases (st_mem hm hz).1 (h.mem_iff.1 hi) with ⟨p, hp, rfl⟩ | ⟨u, hu, h1, rfl⟩ | ⟨p, hp, u, hu, h1, rfl⟩ | ⟨p, hp, rfl⟩
    · exact absurd hk.1 (show ¬ (1 : Int) = 2 by decide)
    · have h2 : (0 : Int) = q.1 := hk.2
      have := hz q hq
      omega
    · have h2 : p.1 = q.1 := hk.2
      have e : p.2 = q.2 := by
        have e1 := aget_mem_some hm hp
        have e2 := aget_mem_some hm hq
        rw [h2, e2] at e1
        injection e1 with e1
        exact e1.symm
      rw [e] at h1 ⊢
      exact ⟨u, hu, h1, rfl⟩
    · exact absurd hk.1 (show ¬ (3 : Int) = 2 by decide)
  · rintro ⟨u, hu, h1, rfl⟩
    exact ⟨_, h.mem_iff.2 ((st_mem hm hz).2 (.inr (.inr (.inl ⟨q, hq, u, hu, h1, rfl⟩)))), ⟨rfl, rfl⟩, rfl⟩
theorem put_ids {id : Int} {v : Nat × MpF} (hid : 1 ≤ id ∧ id ≤ 1073741824) (hz : IdsR M) : IdsR (aput M id v) := by
  intro p hp
  unfold aput at hp
  rcases List.mem_cons.1 hp with rfl | hp
  · exact hid
  · exact hz p (mem_adel hp)
theorem mem_put {id : Int} (hg : aget M id = none) {v : Nat × MpF} {p : Int × (Nat × MpF)} : p ∈ aput M id v ↔ p = (id, v) ∨ p ∈ M := by
  unfold aput
  rw [adel_none hg, List.mem_cons]
theorem snap_add (hn : n ≤ 512) (hE : Uniq E) (hm : Uniq M) (hz : IdsR M) (h : l.Perm (stItems n E f M)) {id : Int} (hid : 1 ≤ id ∧ id ≤ 1073741824) (hg : aget M id = none) (v : Nat) :
    (l ++ copiedL l 0 id ++ [snI id]).Perm (stItems n E f (aput M id (v, f))) := by
  have hm' := hm.put id (v, f)
  have hz' : IdsR (aput M id (v, f)) := put_ids hid hz
  have hnd : l.Nodup := h.nodup_iff.2 (st_nd hn f hE hm hz)
  refine perm_of ?_ (st_nd hn _ hE hm' hz') (fun x => ?_)
  · refine List.nodup_append.2 ⟨List.nodup_append.2 ⟨hnd, copied_nd hnd _ _, ?_⟩, List.pairwise_singleton _ _, ?_⟩
    · intro a ha b hb e
      subst e
      obtain ⟨u, hu, h1, rfl⟩ := (copied_0 hm hz h).1 hb
      rcases (st_mem hm hz).1 (h.mem_iff.1 ha) with ⟨q, hq, e⟩ | ⟨v, hv, k, e⟩ | ⟨q, hq, v, hv, k, e⟩ | ⟨q, hq, e⟩
      · exact absurd (congrArg It.kind e) (show ¬ (2 : Int) = 1 by decide)
      · have := (sI_inj e).1; omega
      · exact aget_none.1 hg q hq (sI_inj e).1.symm
      · exact absurd (congrArg It.kind e) (show ¬ (2 : Int) = 3 by decide)
    · intro a ha b hb e
      rw [List.mem_singleton] at hb
      subst e
      subst hb
      rcases List.mem_append.1 ha with ha | ha
      · rcases (st_mem hm hz).1 (h.mem_iff.1 ha) with ⟨q, hq, e⟩ | ⟨v, hv, k, e⟩ | ⟨q, hq, v, hv, k, e⟩ | ⟨q, hq, e⟩
        · exact absurd (congrArg It.kind e) (show ¬ (3 : Int) = 1 by decide)
        · exact absurd (congrArg It.kind e) (show ¬ (3 : Int) = 2 by decide)
        · exact absurd (congrArg It.kind e) (show ¬ (3 : Int) = 2 by decide)
        · have e2 : id = q.1 := congrArg It.snap e
          exact aget_none.1 hg q hq e2.symm
      · obtain ⟨u, hu, h1, e⟩ := (copied_0 hm hz h).1 ha
        exact absurd (congrArg It.kind e) (show ¬ (3 : Int) = 2 by decide)
  · rw [List.mem_append, List.mem_append, List.mem_singleton, h.mem_iff, st_mem hm hz, st_mem hm' hz', copied_0 hm hz h]
    constructor
    · rintro ((((h1 | h1 | ⟨q, hq, h1⟩ | ⟨q, hq, h1⟩) | ⟨u, hu, h1, rfl⟩) | rfl))
      · exact .inl h1
      · exact .inr (.inl h1)
      · exact .inr (.inr (.inl ⟨q, (mem_put hg).2 (.inr hq), h1⟩))
      · exact .inr (.inr (.inr ⟨q, (mem_put hg).2 (.inr hq), h1⟩))
      · exact .inr (.inr (.inl ⟨_, (mem_put hg).2 (.inl rfl), u, hu, h1, rfl⟩))
      · exact .inr (.inr (.inr ⟨_, (mem_put hg).2 (.inl rfl), rfl⟩))
    · rintro (h1 | h1 | ⟨q, hq, h1⟩ | ⟨q, hq, h1⟩)
      · exact .inl (.inl (.inl h1))
      · exact .inl (.inl (.inr (.inl h1)))
      · rcases (mem_put hg).1 hq with rfl | hq
        · obtain ⟨u, hu, k, rfl⟩ := h1
          exact .inl (.inr ⟨u, hu, k, rfl⟩)
        · exact .inl (.inl (.inr (.inr (.inl ⟨q, hq, h1⟩))))
      · rcases (mem_put hg).1 hq with rfl | hq
        · exact .inr h1
        · exact .inl (.inl (.inr (.inr (.inr ⟨q, hq, h1⟩))))
theorem mem_del {id : Int} {p : Int × (Nat × MpF)} : p ∈ adel M id ↔ p ∈ M ∧ p.1 ≠ id := by
  unfold adel
  rw [List.mem_filter]
  simp
theorem isSn_x (id : Int) (p : Key × Pl) : (fun i : It => i.kind != 3 || !decide (i.snap = id)) (exIt p) = true := rfl
theorem isSn_s (id i : Int) (u : Nat) (s : Sl) : (fun i : It => i.kind != 3 || !decide (i.snap = id)) (sI i u s) = true := rfl
theorem isSn_n (id i : Int) : (fun i : It => i.kind != 3 || !decide (i.snap = id)) (snI i) = true ↔ i ≠ id := by
  show (false || !decide (i = id)) = true ↔ i ≠ id
  rw [Bool.false_or, Bool.not_eq_true', decide_eq_false_iff_not]
theorem snap_del (hn : n ≤ 512) (hE : Uniq E) (hm : Uniq M) (hz : IdsR M) (h : l.Perm (stItems n E f M)) {id : Int} (hid : 1 ≤ id) :
    ((withoutL l id 0 512).filter (fun i => i.kind != 3 || !decide (i.snap = id))).Perm (stItems n E f (adel M id)) := by
  have hm' : Uniq (adel M id) := hm.filter _
  have hz' : IdsR (adel M id) := fun p hp => hz p (mem_adel hp)
  have hnd : l.Nodup := h.nodup_iff.2 (st_nd hn f hE hm hz)
  refine perm_of ((hnd.filter _).filter _) (st_nd hn _ hE hm' hz') (fun x => ?_)
  unfold withoutL
  rw [List.mem_filter, List.mem_filter, h.mem_iff, st_mem hm hz, st_mem hm' hz']
  constructor
  · rintro ⟨⟨⟨q, hq, rfl⟩ | ⟨u, hu, k, rfl⟩ | ⟨q, hq, u, hu, k, rfl⟩ | ⟨q, hq, rfl⟩, h1⟩, h2⟩
    · exact .inl ⟨q, hq, rfl⟩
    · exact .inr (.inl ⟨u, hu, k, rfl⟩)
    · rw [out_s] at h1
      exact .inr (.inr (.inl ⟨q, mem_del.2 ⟨hq, by omega⟩, u, hu, k, rfl⟩))
    · exact .inr (.inr (.inr ⟨q, mem_del.2 ⟨hq, (isSn_n id q.1).1 h2⟩, rfl⟩))
  · rintro (⟨q, hq, rfl⟩ | ⟨u, hu, k, rfl⟩ | ⟨q, hq, u, hu, k, rfl⟩ | ⟨q, hq, rfl⟩)
    · exact ⟨⟨.inl ⟨q, hq, rfl⟩, out_x ..⟩, isSn_x ..⟩
    · exact ⟨⟨.inr (.inl ⟨u, hu, k, rfl⟩), (out_s ..).2 (.inl (by omega))⟩, isSn_s ..⟩
    · exact ⟨⟨.inr (.inr (.inl ⟨q, (mem_del.1 hq).1, u, hu, k, rfl⟩)), (out_s ..).2 (.inl (mem_del.1 hq).2)⟩, isSn_s ..⟩
    · exact ⟨⟨.inr (.inr (.inr ⟨q, (mem_del.1 hq).1, rfl⟩)), out_n ..⟩, (isSn_n id q.1).2 (mem_del.1 hq).2⟩
theorem snap_back (hn : n ≤ 512) (hE : Uniq E) (hm : Uniq M) (hz : IdsR M) (h : l.Perm (stItems n E f M)) {q : Int × (Nat × MpF)} (hq : q ∈ M) :
    (withoutL l 0 0 512 ++ copiedL l q.1 0).Perm (stItems n E q.2.2 M) := by
  have hnd : l.Nodup := h.nodup_iff.2 (st_nd hn f hE hm hz)
  refine perm_of ?_ (st_nd hn _ hE hm hz) (fun x => ?_)
  · refine List.nodup_append.2 ⟨hnd.filter _, copied_nd hnd _ _, ?_⟩
    intro a ha b hb e
    subst e
    obtain ⟨u, hu, h1, rfl⟩ := (copied_s hm hz h hq).1 hb
    unfold withoutL at ha
    rw [List.mem_filter, out_s] at ha
    omega
  · unfold withoutL
    rw [List.mem_append, List.mem_filter, h.mem_iff, st_mem hm hz, st_mem hm hz, copied_s hm hz h hq]
    constructor
    · rintro (⟨⟨p, hp, rfl⟩ | ⟨u, hu, k, rfl⟩ | ⟨p, hp, u, hu, k, rfl⟩ | ⟨p, hp, rfl⟩, h1⟩ | ⟨u, hu, k, rfl⟩)
      · exact .inl ⟨p, hp, rfl⟩
      · rw [out_s] at h1; omega
      · exact .inr (.inr (.inl ⟨p, hp, u, hu, k, rfl⟩))
      · exact .inr (.inr (.inr ⟨p, hp, rfl⟩))
      · exact .inr (.inl ⟨u, hu, k, rfl⟩)
    · rintro (⟨p, hp, rfl⟩ | ⟨u, hu, k, rfl⟩ | ⟨p, hp, u, hu, k, rfl⟩ | ⟨p, hp, rfl⟩)
      · exact .inl ⟨.inl ⟨p, hp, rfl⟩, out_x ..⟩
      · exact .inr ⟨u, hu, k, rfl⟩
      · exact .inl ⟨.inr (.inr (.inl ⟨p, hp, u, hu, k, rfl⟩)), (out_s ..).2 (.inl (by have := hz p hp; omega))⟩
      · exact .inl ⟨.inr (.inr (.inr ⟨p, hp, rfl⟩)), out_n ..⟩
end
end Go.Proofs.YtgjjdfhoakailaaGreat
namespace Go.Proofs.YtgjjdfhoakailaaGreat
open Go.RowKit Go.Maps Go.Sort Go.Shelf
set_option linter.unusedVariables false
set_option linter.unusedSimpArgs false
section
variable {n : Nat} {E : ExM} {f : MpF} {M : SnM} {l : List It}
theorem addAll_none {r : List Fr} (hf : r.all frB = true) (hnd : (r.map (·.key)).Nodup) (ht : thereB E r = false) {K : Key} (hK : aget E K = none) (hr : ∀ p ∈ r, p.key ≠ K) : aget (addAll E r) K = none := by
  rw [addAll_get hf hnd ht, hK, List.find?_eq_none.2 (fun p hp => by simpa using hr p hp)]
  rfl
theorem adds_perm (hn : n ≤ 512) (hE : Uniq E) (hm : Uniq M) (hz : IdsR M) (h : l.Perm (stItems n E f M)) (r : List Fr) (hf : r.all frB = true) (hnd : (r.map (·.key)).Nodup) (ht : thereB E r = false) :
    (l ++ r.map frI).Perm (stItems n (addAll E r) f M) := by
  induction r using snoc_ind with
  | nil => rw [List.map_nil, List.append_nil]; exact h
  | append_singleton r x ih =>
    rw [List.all_append, Bool.and_eq_true] at hf
    rw [List.map_append, List.nodup_append] at hnd
    unfold thereB at ht
    rw [List.any_append, Bool.or_eq_false_iff] at ht
    have hx : frB x = true := by simpa using hf.2
    have hxE : aget E x.key = none := by
      have := ht.2
      simp at this
      exact this
    have hnone : aget (addAll E r) x.key = none := addAll_none hf.1 hnd.1 ht.1 hxE (fun p hp => hnd.2.2 p.key (List.mem_map_of_mem hp) x.key (by simp))
    have he : addE (addAll E r) x.key x.pl = 0 := by
      unfold addE
      rw [(frB_may hx).1, hnone]
      rfl
    rw [addAll_snoc, List.map_append, ← List.append_assoc]
    unfold addX
    rw [if_pos he]
    exact add_perm hn (addAll_uniq hE r) hm hz hnone (ih hf.1 hnd.1 ht.1)
theorem putB_ok {out : List It} {E1 : ExM} {g : MpF} (hE1 : Uniq E1) (hm : Uniq M) (hz : IdsR M) (h : out.Perm (stItems n E1 g M)) {r : List Fr} (hnd : (r.map (·.key)).Nodup) (ht : thereB E r = false) (hg : ∀ K, aget E1 K = (aget E K).or ((r.find? (fun p => decide (p.key = K))).map (·.pl))) (p : Pu) (h0 : 0 ≤ p.sl.off) :
    putB n out p = putOk n E (frM r) p := by
  unfold putB putOk uniOf
  rw [ext_perm hE1 hm hz h, hg, frM_get hnd]
  cases hf : r.find? (fun q => decide (q.key = p.sl.key)) with
  | none =>
    cases aget E p.sl.key with
    | none =>
      simp only [Option.none_or, Option.map_none, Option.getD_none]
      congr 1
      rw [eq_comm, decide_eq_false_iff_not]
      unfold zPl
      simp only
      omega
    | some q => rfl
  | some x =>
    have hx : x.key = p.sl.key := by simpa using List.find?_some hf
    have hxE : aget E p.sl.key = none := by
      unfold thereB at ht
      have := List.any_eq_false.1 ht x (List.mem_of_find?_eq_some hf)
      rw [hx] at this
      simpa using this
    rw [hxE]
    rfl
theorem puts_perm (hn : n ≤ 512) {E1 : ExM} (hE1 : Uniq E1) (hm : Uniq M) (hz : IdsR M) {r : List Fr} (hnd : (r.map (·.key)).Nodup) (ht : thereB E r = false) (hg : ∀ K, aget E1 K = (aget E K).or ((r.find? (fun p => decide (p.key = K))).map (·.pl))) :
    ∀ (ps : List Pu) (out : List It) (g : MpF), out.Perm (stItems n E1 g M) → (∀ p ∈ ps, 0 ≤ p.unit ∧ p.unit ≤ 511 ∧ 0 ≤ p.sl.off ∧ p.sl.off ≤ 15 ∧ 1 ≤ p.sl.mask ∧ p.sl.mask ≤ 255) →
      if ps.all (putOk n E (frM r)) = true then ∃ out', putsL n out ps = some out' ∧ out'.Perm (stItems n E1 (setAll n g ps) M) else putsL n out ps = none
  | [], out, g, h, _ => ⟨out, rfl, h⟩
  | p :: ps, out, g, h, hb => by
    have h1 := hb p (List.mem_cons_self ..)
    have hb' : ∀ q ∈ ps, 0 ≤ q.unit ∧ q.unit ≤ 511 ∧ 0 ≤ q.sl.off ∧ q.sl.off ≤ 15 ∧ 1 ≤ q.sl.mask ∧ q.sl.mask ≤ 255 := fun q hq => hb q (List.mem_cons_of_mem _ hq)
    rw [List.all_cons]
    unfold putsL
    rw [putB_ok hE1 hm hz h hnd ht hg p h1.2.2.1]
    cases hp : putOk n E (frM r) p with
    | false => rfl
    | true =>
      have hu : p.unit < n := by
        unfold putOk at hp
        rw [Bool.and_eq_true] at hp
        exact of_decide_eq_true hp.1
      have hs : setE n p.unit p.sl = 0 := by
        unfold setE
        rw [if_pos (by omega)]
      have e : setAll n g (p :: ps) = setAll n (upd g p.unit.toNat p.sl) ps := by
        show setAll n (setF n g p.unit p.sl) ps = _
        unfold setF
        rw [if_pos hs]
      rw [e]
      exact puts_perm hn hE1 hm hz hnd ht hg ps _ _ (put_perm hn hE1 hm hz h (p := p) (u := p.unit.toNat) (by omega) (by omega) (by omega)) hb'
theorem there_eq (hE : Uniq E) (hm : Uniq M) (hz : IdsR M) (h : l.Perm (stItems n E f M)) (r : List Fr) : r.any (fun p => (extI l p.key).isSome) = thereB E r := by
  unfold thereB
  congr 1
  funext p
  rw [ext_perm hE hm hz h, Option.isSome_map]
theorem want_eq {E1 : ExM} {o : OpV} (hI : Inv n E f M) (W : WrOk n E1 ⟨o.kind, o.pos, o.n, o.snap, [], o.puts⟩) {out : List It} (h : out.Perm (stItems n E1 (setAll n f o.puts) M)) (ht : thereB E o.news = false) :
    o.news.any (fun p => cntI out p.key == 0) = !(o.news.all (wantedB o.puts)) := by
  have key : ∀ p ∈ o.news, (cntI out p.key == 0) = !(wantedB o.puts p) := by
    intro p hp
    have hpE : aget E p.key = none := by
      unfold thereB at ht
      have := List.any_eq_false.1 ht p hp
      simpa using this
    have hnone : ∀ g, IsMap f M g → ∀ u, u < n → (g u).mask ≠ 0 → (g u).key ≠ p.key := by
      intro g hg u hu hm hk
      obtain ⟨_, _, _, _, q, hq, _⟩ := hI.has g hg u hu hm
      rw [hk, hpE] at hq
      cases hq
    have hc := cnt_pos (n := n) (f := setAll n f o.puts) hI.uniqM (fun q hq => (hI.ids q hq).1) p.key
    rw [cnt_perm h]
    unfold wantedB
    by_cases hw : p.key ∈ o.puts.map (·.sl.key)
    · rw [decide_eq_true hw, Bool.not_true, beq_eq_false_iff_ne]
      obtain ⟨q, hq, hk⟩ := List.mem_map.1 hw
      refine hc.2 ⟨_, .inl rfl, q.unit.toNat, ?_, ?_, ?_⟩
      · have h1 := (W.ok q hq).1
        have h2 := (W.puts q hq).1
        omega
      · rw [W.set_at f hq]
        have := (W.puts q hq).2.2.2.2.1
        omega
      · rw [W.set_at f hq]
        exact hk
    · rw [decide_eq_false hw, Bool.not_false, beq_iff_eq]
      by_cases hcc : cntI (mItems n (setAll n f o.puts) M) p.key = 0
      · exact hcc
      · obtain ⟨g, hg, u, hu, hm, hk⟩ := hc.1 hcc
        rcases hg with rfl | ⟨q, hq, rfl⟩
        · have hs := W.set f u
          simp only at hs
          rw [hs] at hm hk
          cases hfd : o.puts.find? (fun p => decide (p.unit = (u : Int))) with
          | none =>
            rw [hfd] at hm hk
            exact absurd hk (hnone f (.inl rfl) u hu hm)
          | some x =>
            rw [hfd] at hk
            exact absurd (List.mem_map.2 ⟨x, List.mem_of_find?_eq_some hfd, hk⟩) hw
        · exact absurd hk (hnone _ (.inr ⟨q, hq, rfl⟩) u hu hm)
  rw [Bool.eq_iff_iff, List.any_eq_true, Bool.not_eq_true', List.all_eq_false]
  constructor
  · rintro ⟨p, hp, h1⟩
    rw [key p hp] at h1
    exact ⟨p, hp, by simpa using h1⟩
  · rintro ⟨p, hp, h1⟩
    refine ⟨p, hp, ?_⟩
    rw [key p hp]
    simpa using h1
theorem write_perm (hn : n ≤ 512) (hI : Inv n E f M) (h : l.Perm (stItems n E f M)) {o : OpV} (hr : writeB o = true) :
    (writeL n l o).2 = wrE n E o ∧ (wrE n E o = 0 → ((writeL n l o).1).Perm (stItems n (addAll E o.news) (setAll n f o.puts) M)) := by
  have hE := hI.uniq
  have hm := hI.uniqM
  have hz : IdsR M := hI.ids
  have hr' := hr
  unfold writeB newsB at hr'
  simp only [Bool.and_eq_true, decide_eq_true_eq] at hr'
  obtain ⟨⟨⟨⟨h1, h2⟩, h3⟩, _⟩, _⟩ := hr'
  have h4 := putsB_facts _ _ h3
  unfold writeL wrE
  rw [there_eq hE hm hz h]
  cases ht : thereB E o.news with
  | true => exact ⟨rfl, fun e => absurd e (show ¬ (7 : Int) = 0 by decide)⟩
  | false =>
    have hadd := adds_perm hn hE hm hz h o.news h1 h2 ht
    have hget := addAll_get h1 h2 ht
    have hE1 := addAll_uniq hE o.news
    have hp := puts_perm hn hE1 hm hz h2 ht hget o.puts _ f hadd h4.1
    simp only [Bool.false_eq_true, if_false]
    cases hok : o.puts.all (putOk n E (frM o.news)) with
    | false =>
      rw [hok, if_neg (by decide)] at hp
      rw [hp]
      exact ⟨rfl, fun e => absurd e (show ¬ (2 : Int) = 0 by decide)⟩
    | true =>
      rw [hok, if_pos rfl] at hp
      obtain ⟨out, e, hpm⟩ := hp
      have W : WrOk n (addAll E o.news) ⟨o.kind, o.pos, o.n, o.snap, [], o.puts⟩ := by
        refine ⟨rfl, List.nodup_nil, h4.1, h4.2, rfl, fun p hp => ?_, fun p hp => by cases hp⟩
        have h5 := List.all_eq_true.1 hok p hp
        rw [← putB_ok hE1 hm hz hadd h2 ht hget p (h4.1 p hp).2.2.1] at h5
        unfold putB at h5
        rw [ext_perm hE1 hm hz hadd, Bool.and_eq_true] at h5
        refine ⟨of_decide_eq_true h5.1, ?_⟩
        show _ < uniOf (addAll E o.news) (frM []) p.sl.key
        unfold uniOf frM
        rw [List.foldl_nil]
        cases hq : aget (addAll E o.news) p.sl.key with
        | none => rw [hq] at h5; exact absurd (show false = true from h5.2) (by decide)
        | some q =>
          rw [hq] at h5
          exact of_decide_eq_true h5.2
      rw [e]
      simp only [Bool.true_eq_false, if_false]
      rw [want_eq hI W hpm ht]
      cases o.news.all (wantedB o.puts) with
      | false => exact ⟨rfl, fun e => absurd e (show ¬ (2 : Int) = 0 by decide)⟩
      | true => exact ⟨rfl, fun _ => hpm⟩
/-- What an op does, ahead of the counts. -/
theorem step_perm (hn : n ≤ 512) (hI : Inv n E f M) (h : l.Perm (stItems n E f M)) {o : OpV} (ho : rightB o = true) {r : Int} {E1 : ExM} {f' : MpF} {M' : SnM} (hs : StepR n E f M o r E1 f' M') :
    (stepL n l o).2 = r ∧ (r = 0 → ((stepL n l o).1).Perm (stItems n E1 f' M') ∧ Uniq E1 ∧ ∀ K p, aget E1 K = some p → p.ref = cntI (mItems n f M) K) := by
  have hE := hI.uniq
  have hm := hI.uniqM
  have hz : IdsR M := hI.ids
  have hr0 : ∀ K p, aget E K = some p → p.ref = cntI (mItems n f M) K := fun K p hp => (hI.ref K p hp).1
  obtain ⟨_, hw, hsn⟩ := right_kind ho
  unfold stepL
  rcases hs with ⟨hk, h0, rfl, rfl, rfl⟩ | ⟨hk, rfl, h0, rfl, rfl⟩ | ⟨hk, rfl, h0, rfl, h3⟩ | ⟨hk, rfl, h0, rfl, rfl⟩ | ⟨hk, rfl, h0, rfl, rfl⟩
  · rw [if_pos hk]
    have hwp := write_perm hn hI h (hw hk)
    refine ⟨hwp.1.trans h0.symm, fun hr => ?_⟩
    have h0' := h0.symm.trans hr
    rw [if_pos h0', if_pos h0']
    refine ⟨hwp.2 h0', addAll_uniq hE _, fun K p hp => ?_⟩
    have W := wr_ok (hw hk) h0'
    rw [addAll_get W.fr W.nd W.there] at hp
    cases he : aget E K with
    | some q => rw [he] at hp; exact hr0 K p (he.trans hp)
    | none =>
      rw [he] at hp
      simp only [Option.none_or] at hp
      cases hf : o.news.find? (fun p => decide (p.key = K)) with
      | none => rw [hf] at hp; cases hp
      | some x =>
        rw [hf] at hp
        injection hp with hp
        subst hp
        rw [(frB_may (List.all_eq_true.1 W.fr x (List.mem_of_find?_eq_some hf))).2]
        by_cases hc : cntI (mItems n f M') K = 0
        · exact hc.symm
        · obtain ⟨g, hg, u, hu, hm, hk⟩ := (hI.cnt K).1 hc
          obtain ⟨_, _, _, _, p, hp, _⟩ := hI.has g hg u hu hm
          rw [hk, he] at hp
          cases hp
  · rw [if_neg (by omega), if_pos hk]
    have hB : (0 ≤ o.pos ∧ o.pos ≤ 4096) ∧ 0 ≤ o.n ∧ o.n ≤ 4096 := by
      unfold rightB inB at ho
      rw [if_neg (by omega), if_pos hk] at ho
      simp only [Bool.and_eq_true, decide_eq_true_eq] at ho
      exact ⟨ho.1.2, ho.2⟩
    unfold discL
    by_cases hc : 8 * (n : Int) < o.pos + o.n
    · rw [if_pos hc]
      have : clrE n o.pos o.n = 2 := by unfold clrE; rw [if_pos (by omega)]
      rw [this] at h0
      exact ⟨h0.symm, fun hr => by omega⟩
    · rw [if_neg hc]
      have hcl : clrE n o.pos o.n = 0 := by unfold clrE; rw [if_neg (by omega)]
      refine ⟨by rw [h0, hcl], fun hr => ⟨?_, hE, hr0⟩⟩
      exact disc_perm hn hE hm hz (hI.mask f (.inl rfl)) h hB.1.1 hB.2.1 hcl
  · rw [if_neg (by omega), if_neg (by omega), if_pos hk, snap_perm hm hz h, snaps_perm h]
    have hid := hsn (.inl hk)
    have hsE : snapE M o.snap = if (aget M o.snap).isSome then 7 else if 8 ≤ M.length then 14 else 0 := by unfold snapE; rw [if_neg (by omega)]
    rw [h0, hsE]
    rw [hsE] at h3
    cases hg : aget M o.snap with
    | some q =>
      rw [hg] at h3
      exact ⟨rfl, fun hr => absurd hr (show ¬ (7 : Int) = 0 by decide)⟩
    | none =>
      rw [hg] at h3
      simp only [Option.isSome_none, Bool.false_eq_true, if_false] at h3 ⊢
      by_cases h8 : 8 ≤ M.length
      · rw [if_pos h8, if_pos h8]
        exact ⟨rfl, fun hr => absurd hr (show ¬ (14 : Int) = 0 by decide)⟩
      · rw [if_neg h8, if_neg h8]
        rw [if_neg h8] at h3
        refine ⟨rfl, fun _ => ⟨?_, hE, hr0⟩⟩
        rcases h3 with ⟨h3, _⟩ | ⟨_, v, rfl⟩
        · exact absurd rfl h3
        · exact snap_add hn hE hm hz h hid hg v
  · rw [if_neg (by omega), if_neg (by omega), if_neg (by omega), if_pos hk, snap_perm hm hz h, h0]
    have hid := hsn (.inr (.inl hk))
    unfold dropE
    cases hg : (aget M o.snap).isSome with
    | false => exact ⟨rfl, fun hr => absurd hr (show ¬ (13 : Int) = 0 by decide)⟩
    | true => exact ⟨rfl, fun _ => ⟨snap_del hn hE hm hz h hid.1, hE, hr0⟩⟩
  · rw [if_neg (by omega), if_neg (by omega), if_neg (by omega), if_neg (by omega), snap_perm hm hz h, h0]
    unfold dropE backF
    cases hg : aget M' o.snap with
    | none => exact ⟨rfl, fun hr => absurd hr (show ¬ (13 : Int) = 0 by decide)⟩
    | some q =>
      refine ⟨rfl, fun _ => ⟨?_, hE, hr0⟩⟩
      exact snap_back hn hE hm hz h (q := (o.snap, q)) (aget_mem hg)
theorem mItems_short (hn : n ≤ 512) (hI : Inv n E f M) : (mItems n f M).length ≤ 2147483647 := by
  have h1 := mItems_len hn f M
  have h2 := hI.len
  omega
/-- Do. -/
theorem do_perm (hn : n ≤ 512) (hI : Inv n E f M) (h : l.Perm (stItems n E f M)) {o : OpV} {r : Int} {E' : ExM} {f' : MpF} {M' : SnM} (hd : DoR n E f M o r E' f' M') :
    (doL n l o).2 = r ∧ ((doL n l o).1).Perm (stItems n E' f' M') := by
  have hI' := (do_inv hn hI hd).1
  unfold doL
  rcases hd with ⟨ho, rfl, rfl, rfl, rfl⟩ | ⟨ho, E1, hs, he⟩
  · rw [ho]
    exact ⟨rfl, h⟩
  · have hp := step_perm hn hI h ho hs
    rw [ho, hp.1, if_pos rfl]
    by_cases hr : r = 0
    · rw [if_pos hr]
      rw [if_pos hr] at he
      obtain ⟨h1, h2, h3⟩ := hp.2 hr
      refine ⟨hr.symm, ?_⟩
      have hg := fix_get h3 (mItems_short hn hI') (E := E1)
      rw [← he] at hg
      exact settled_perm hn h2 hI' hg h1
    · rw [if_neg hr]
      rw [if_neg hr] at he
      obtain ⟨rfl, rfl, rfl⟩ := step_err hs hI.uniqM hr
      subst he
      exact ⟨rfl, h⟩
end
end Go.Proofs.YtgjjdfhoakailaaGreat
namespace Go.Proofs.YtgjjdfhoakailaaGreat
open Go.RowKit Go.Maps Go.Sort Go.Shelf
set_option linter.unusedVariables false
set_option linter.unusedSimpArgs false
/-- Does an item stand ahead of another one? -/
def befI (a b : It) : Bool :=
  if a.kind = b.kind then
    if a.kind = 1 then decide (cmpK a.key b.key < 0)
    else if a.kind = 2 then (if a.snap = b.snap then decide (a.unit < b.unit) else decide (a.snap < b.snap))
    else decide (a.snap < b.snap)
  else decide (a.kind < b.kind)
theorem cmpK_trans {a b c : Key} (h1 : cmpK a b < 0) (h2 : cmpK b c < 0) : cmpK a c < 0 := cb_trans _ _ _ h1 h2
theorem befI_trans {a b c : It} (h1 : befI a b = true) (h2 : befI b c = true) : befI a c = true := by
  unfold befI at *
  by_cases e1 : a.kind = b.kind
  · by_cases e2 : b.kind = c.kind
    · rw [if_pos e1] at h1
      rw [if_pos e2] at h2
      rw [if_pos (e1.trans e2)]
      by_cases k1 : a.kind = 1
      · rw [if_pos k1] at h1 ⊢
        rw [if_pos (by omega)] at h2
        exact decide_eq_true (cmpK_trans (of_decide_eq_true h1) (of_decide_eq_true h2))
      · rw [if_neg k1] at h1 ⊢
        rw [if_neg (by omega)] at h2
        by_cases k2 : a.kind = 2
        · rw [if_pos k2] at h1 ⊢
          rw [if_pos (by omega)] at h2
          split at h1 <;> split at h2 <;> split <;> simp only [decide_eq_true_eq] at * <;> omega
        · rw [if_neg k2] at h1 ⊢
          rw [if_neg (by omega)] at h2
          simp only [decide_eq_true_eq] at *
          omega
    · rw [if_neg e2] at h2
      rw [if_neg (by omega), e1]
      exact h2
  · rw [if_neg e1] at h1
    by_cases e2 : b.kind = c.kind
    · rw [if_neg (by omega), ← e2]
      exact h1
    · rw [if_neg e2] at h2
      simp only [decide_eq_true_eq] at *
      rw [if_neg (by omega)]
      simp only [decide_eq_true_eq]
      omega
theorem befI_asymm {a b : It} (h1 : befI a b = true) (h2 : befI b a = true) : False := by
  have h := befI_trans h1 h2
  unfold befI at h
  rw [if_pos rfl, cmpK_self] at h
  split at h
  · exact absurd (of_decide_eq_true h) (by omega)
  · split at h
    · rw [if_pos rfl] at h
      exact absurd (of_decide_eq_true h) (by omega)
    · exact absurd (of_decide_eq_true h) (by omega)
theorem befI_sl (id id' u u' : Int) (s s' : Sl) : befI ⟨2, zKey, zPl, id, u, s⟩ ⟨2, zKey, zPl, id', u', s'⟩ = if id = id' then decide (u < u') else decide (id < id') := rfl
theorem befI_x (p q : Key × Pl) : befI (exIt p) (exIt q) = decide (cmpK p.1 q.1 < 0) := rfl
theorem befI_n (a b : Int) : befI (snI a) (snI b) = decide (a < b) := rfl
abbrev SortedI (l : List It) : Prop := l.Pairwise (fun a b => befI a b = true)
theorem sorted_eq {l r : List It} (hl : SortedI l) (hr : SortedI r) (h : l.Perm r) : l = r :=
  List.Perm.eq_of_pairwise (le := fun a b => befI a b = true) (fun a b _ _ h1 h2 => (befI_asymm h1 h2).elim) hl hr h
theorem slIs_sorted (n : Nat) (g : MpF) (id : Int) : SortedI (slIs n g id) := by
  induction n with
  | zero => exact List.Pairwise.nil
  | succ n ih =>
    rw [slIs_succ]
    refine List.pairwise_append.2 ⟨ih, ?_, fun a ha b hb => ?_⟩
    · unfold slI
      split
      · exact List.Pairwise.nil
      · exact List.pairwise_singleton _ _
    · obtain ⟨u, hu, _, rfl⟩ := mem_slIs.1 ha
      unfold slI at hb
      split at hb
      · cases hb
      · rw [List.mem_singleton] at hb
        subst hb
        rw [befI_sl, if_pos rfl]
        exact decide_eq_true (by omega)
theorem mSl_sorted (n : Nat) (f : MpF) (M : SnM) : ∀ ids : List Int, ids.Pairwise (· < ·) → SortedI (mSl n f M ids)
  | [], _ => List.Pairwise.nil
  | id :: ids, h => by
    obtain ⟨h1, h2⟩ := List.pairwise_cons.1 h
    have ih := mSl_sorted n f M ids h2
    unfold mSl at *
    rw [List.flatMap_cons]
    refine List.pairwise_append.2 ⟨slIs_sorted .., ih, fun a ha b hb => ?_⟩
    obtain ⟨u, hu, _, rfl⟩ := mem_slIs.1 ha
    obtain ⟨id2, hid, hb⟩ := List.mem_flatMap.1 hb
    obtain ⟨v, hv, _, rfl⟩ := mem_slIs.1 hb
    have := h1 id2 hid
    rw [befI_sl, if_neg (by omega)]
    exact decide_eq_true this
theorem sIds_lt {M : SnM} (h : Uniq M) : (sIds M).Pairwise (· < ·) := by
  have h1 : (sIds M).Pairwise (fun a b => leI a b = true) := List.pairwise_mergeSort (fun a b c h1 h2 => decide_eq_true (by have := of_decide_eq_true h1; have := of_decide_eq_true h2; omega)) (fun a b => by show (decide (a ≤ b) || decide (b ≤ a)) = true; rw [Bool.or_eq_true, decide_eq_true_eq, decide_eq_true_eq]; omega) _
  have h2 : (sIds M).Nodup := (sIds_perm M).nodup_iff.2 (uniq_nodup h)
  refine (h1.and h2).imp (fun {a b} h => ?_)
  have := of_decide_eq_true h.1
  have := h.2
  omega
theorem xItems_srt {E : ExM} (h : Uniq E) : SortedI (xItems E) := by
  have h2 : (xItems E).Pairwise (fun a b => a.key ≠ b.key) := by
    have h3 : ((E.map exIt).map It.key).Nodup := by
      rw [List.map_map]
      exact uniq_nodup h
    have h4 : ((xItems E).map It.key).Nodup := ((xItems_perm E).map It.key).nodup_iff.2 h3
    exact List.pairwise_map.1 h4
  refine ((xItems_sorted E).and h2).imp_of_mem (fun {a b} ha hb h => ?_)
  obtain ⟨p, _, rfl⟩ := xItems_mem.1 ha
  obtain ⟨q, _, rfl⟩ := xItems_mem.1 hb
  obtain ⟨h1, h2⟩ := h
  unfold leIt ltOf at h1
  simp at h1
  rw [befI_x]
  refine decide_eq_true ?_
  rcases Int.lt_or_le (cmpK p.1 q.1) 0 with h3 | h3
  · exact h3
  · exact absurd (cmpK_zero (K := p.1) (L := q.1) h3 h1) h2
theorem st_sorted {n : Nat} {E : ExM} {f : MpF} {M : SnM} (hE : Uniq E) (hm : Uniq M) (hz : IdsR M) : SortedI (stItems n E f M) := by
  have hids : (0 :: sIds M).Pairwise (· < ·) := List.pairwise_cons.2 ⟨fun id hid => by
    obtain ⟨q, hq, rfl⟩ := sIds_iff.1 hid
    have := hz q hq
    omega, sIds_lt hm⟩
  have hlt : ∀ {a b : It}, a.kind < b.kind → befI a b = true := fun {a b} h => by
    unfold befI
    rw [if_neg (by omega)]
    exact decide_eq_true h
  unfold stItems mItems
  refine List.pairwise_append.2 ⟨xItems_srt hE, List.pairwise_append.2 ⟨mSl_sorted n f M _ hids, ?_, fun a ha b hb => ?_⟩, fun a ha b hb => ?_⟩
  · refine List.pairwise_map.2 ((sIds_lt hm).imp (fun {a b} h => ?_))
    rw [befI_n]
    exact decide_eq_true h
  · unfold mSl at ha
    obtain ⟨id, _, ha⟩ := List.mem_flatMap.1 ha
    obtain ⟨u, _, _, rfl⟩ := mem_slIs.1 ha
    obtain ⟨id2, _, rfl⟩ := List.mem_map.1 hb
    exact hlt (show (2 : Int) < 3 by decide)
  · obtain ⟨p, _, rfl⟩ := xItems_mem.1 ha
    refine hlt ?_
    rcases List.mem_append.1 hb with hb | hb
    · unfold mSl at hb
      obtain ⟨id, _, hb⟩ := List.mem_flatMap.1 hb
      obtain ⟨u, _, _, rfl⟩ := mem_slIs.1 hb
      exact (show (1 : Int) < 2 by decide)
    · obtain ⟨id2, _, rfl⟩ := List.mem_map.1 hb
      exact (show (1 : Int) < 3 by decide)
end Go.Proofs.YtgjjdfhoakailaaGreat
namespace Go.Proofs.YtgjjdfhoakailaaGreat
open Go.RowKit Go.Maps Go.Sort Go.Shelf
set_option linter.unusedVariables false
set_option linter.unusedSimpArgs false

end Go.Proofs.YtgjjdfhoakailaaGreat
namespace Go.Proofs.YtgjjdfhoakailaaGreat
open Go.RowKit Go.Maps Go.Sort Go.Shelf
set_option linter.unusedVariables false
set_option linter.unusedSimpArgs false

end Go.Proofs.YtgjjdfhoakailaaGreat
namespace Go.Proofs.YtgjjdfhoakailaaGreat
open Go.RowKit Go.Maps Go.Sort Go.Shelf
set_option linter.unusedVariables false
set_option linter.unusedSimpArgs false

def placeB (p : Pl) (rb : Bool) : Bool := inB p.pos 0 262144 && inB p.sec 1 1024 && inB p.uni 1 16 && (if rb then inB p.ref 1 2147483647 else decide (p.ref = 0))
theorem plC_infoB (p : Pl) : (Tryz.prog.info? 52).map (·.size) = some (plC p).length := by rw [plC_len]; kernel_rfl
def sliceB (s : Sl) : Bool := inB s.off 0 15 && inB s.mask 1 255
end Go.Proofs.YtgjjdfhoakailaaGreat
