/-
  StateKeeps: what its walk keeps.
-/
import Derived.Test.YtgjjdfhoakailaaGreatStK1
import Derived.Test.YtgjjdfhoakailaaGreatStN2
import Derived.Test.YtgjjdfhoakailaaGreatStQ1
namespace Go.Proofs.YtgjjdfhoakailaaGreat
open Go.RowKit Go.Maps Go.Sort Go.Shelf
set_option linter.unusedVariables false
set_option linter.unusedSimpArgs false

/-- What was seen of each snapshot when it was made: the row's value, and what it reads as. -/
abbrev KpM := List (Int × (Value × List It))
def veR (p : Value × List It) : Value := p.1
def KeptOk (KM : KpM) (M : SnM) : Prop := ∀ p ∈ M, ∃ v, aget KM p.1 = some (v, slIs 20 p.2.2 0)
structure KpI (w : World) (si xi bx mi bs kb a b : Nat) (E : ExM) (f : MpF) (M : SnM) (KM : KpM) (wr : World) : Prop where
  st : StO w wr si xi bx mi bs 20 E f M
  len : E.length ≤ 18 * a
  map : MapIs Tryz.prog 3 kvI klI veR wr kb KM
  klo : w.heap.size ≤ kb ∧ kb ≠ bx ∧ kb ≠ bs
  rows : ∀ p ∈ KM, wr.ownsRow w.heap.size 56 73 p.2.1 p.2.2.length (itsC p.2.2) ∧ (∀ i ∈ p.2.2, ItB i) ∧ p.2.2.length ≤ 20
  klen : KM.length ≤ b
section
variable {w wr w' : World} {si xi bx mi bs kb a b : Nat} {E E' : ExM} {f f' : MpF} {M M' : SnM} {KM : KpM}
theorem KpI.below (h : KpI w si xi bx mi bs kb a b E f M KM wr) (hb : Below wr.heap.size wr w') : KpI w si xi bx mi bs kb a b E f M KM w' :=
  ⟨h.st.below hb, h.len, h.map.below hb h.map.lt, h.klo, fun p hp => ⟨own_belowR (h.rows p hp).1 hb, (h.rows p hp).2⟩, h.klen⟩
theorem KpI.step (h : KpI w si xi bx mi bs kb a b E f M KM wr) (hT : Tch [bx, mi, bs] wr w') (hs : StO w w' si xi bx mi bs 20 E' f' M') (hl : E'.length ≤ E.length + 18) : KpI w si xi bx mi bs kb (a + 1) b E' f' M' KM w' := by
  have hk : kb ∉ [bx, mi, bs] := by
    have h1 := h.klo
    have h2 := blk_ne_map h.map h.st.st.maps.blk
    simp
    omega
  refine ⟨hs, by have := h.len; omega, h.map.tch hT hk, h.klo, fun p hp => ⟨own_tchN (h.rows p hp).1 hT (h.st.noRow (h.rows p hp).1 (by decide)), (h.rows p hp).2⟩, h.klen⟩
theorem KpI.put (h : KpI w si xi bx mi bs kb a b E f M KM wr) {id : Int} {v : Value} {l : List It} (ho : wr.ownsRow w.heap.size 56 73 v l.length (itsC l)) (hb : ∀ i ∈ l, ItB i) (hl : l.length ≤ 20) (hm : MapIs Tryz.prog 3 kvI klI veR w' kb (aput KM id (v, l))) (hg : wr.grownBy w' (some kb)) : KpI w si xi bx mi bs kb a (b + 1) E f M (aput KM id (v, l)) w' := by
  have hT : Tch [kb] wr w' := tch_own hg
  have n1 := blk_ne_map h.map h.st.st.blk
  have n2 := blk_ne_map h.map h.st.st.idx.blk
  have n3 := blk_ne_map h.map h.st.st.maps.blk
  have h1 := h.klo
  have n6 : ∀ p ∈ M, p.2.1 ∉ [kb] := fun p hp => by have := blk_ne_map h.map (h.st.st.maps.each p hp); simpa using this
  refine ⟨⟨h.st.st.tch hT (by simpa using n1) (by simpa using n2) (by simp; omega) (by simpa using n3) (by simp; omega) n6, h.st.inv, bl_g h.st.low hg h1.1, h.st.lo⟩, h.len, hm, h1, ?_, ?_⟩
  · have keep : ∀ {v : Value} {l : List It}, wr.ownsRow w.heap.size 56 73 v l.length (itsC l) → w'.ownsRow w.heap.size 56 73 v l.length (itsC l) := fun {v l} ho => own_keptR ho hg (fun b hb hv => by
      injection hb with hb
      subst hb
      obtain ⟨cs, hcs⟩ := own_obj ho hv
      obtain ⟨es, c, hm⟩ := h.map.obj
      rw [hm] at hcs
      cases hcs)
    intro p hp
    unfold aput at hp
    rcases List.mem_cons.1 hp with rfl | hp
    · exact ⟨keep ho, hb, hl⟩
    · have h2 := h.rows p (mem_adel hp)
      exact ⟨keep h2.1, h2.2⟩
  · have := aput_len KM id (v, l)
    have := h.klen
    omega
end
/-- Behind an op that made no snapshot, all that is kept still holds. -/
theorem kept_same {E : ExM} {f : MpF} {M : SnM} {o : OpV} {r : Int} {E' : ExM} {f' : MpF} {M' : SnM} {KM : KpM} (hi : Inv 20 E f M) (hd : DoR 20 E f M o r E' f' M') (hk : KeptOk KM M) (hc : ¬ (r = 0 ∧ o.kind = 3)) : KeptOk KM M' := by
  have hsub : ∀ p ∈ M', p ∈ M := by
    by_cases hr : r = 0
    · rcases hd with ⟨_, _, _, _, rfl⟩ | ⟨_, E1, hs, _⟩
      · exact fun p hp => hp
      · rcases hs with ⟨_, _, _, _, rfl⟩ | ⟨_, _, _, _, rfl⟩ | ⟨h, _⟩ | ⟨_, _, _, _, rfl⟩ | ⟨_, _, _, _, rfl⟩
        · exact fun p hp => hp
        · exact fun p hp => hp
        · exact absurd ⟨hr, h⟩ hc
        · exact fun p hp => mem_adel hp
        · exact fun p hp => hp
    · obtain ⟨_, _, rfl⟩ := do_err hi hd hr
      exact fun p hp => hp
  exact fun p hp => hk p (hsub p hp)
/-- Behind one that did, with what is seen now. -/
theorem kept_snap {E : ExM} {f : MpF} {M : SnM} {o : OpV} {E' : ExM} {f' : MpF} {M' : SnM} {KM : KpM} {v : Value} (hi : Inv 20 E f M) (hd : DoR 20 E f M o 0 E' f' M') (hk : KeptOk KM M) (hc : o.kind = 3) : KeptOk (aput KM o.snap (v, slIs 20 f' 0)) M' := by
  have hr : rightB o = true := by
    rcases hd with ⟨_, h, _⟩ | ⟨h, _⟩
    · omega
    · exact h
  obtain ⟨h1, rfl, h3⟩ := do_snap hd hr hc
  rcases h3 with ⟨h3, _⟩ | ⟨_, g, rfl⟩
  · exact absurd h1.symm h3
  · intro p hp
    unfold aput at hp
    rcases List.mem_cons.1 hp with rfl | hp
    · exact ⟨v, by rw [aget_put, if_pos rfl]⟩
    · obtain ⟨u, hu⟩ := hk p (mem_adel hp)
      have hne : ¬ o.snap = p.1 := fun e => by
        have := (List.mem_filter.1 hp).2
        simp [e] at this
      exact ⟨u, by rw [aget_put, if_neg hne]; exact hu⟩
/-- A rollback brings back what was seen. -/
theorem kept_back {E : ExM} {f : MpF} {M : SnM} {o : OpV} {E' : ExM} {f' : MpF} {M' : SnM} {KM : KpM} (hi : Inv 20 E f M) (hd : DoR 20 E f M o 0 E' f' M') (hk : KeptOk KM M) (hc : o.kind = 5) : ∃ v, aget KM o.snap = some (v, slIs 20 f' 0) := by
  have hr : rightB o = true := by
    rcases hd with ⟨_, h, _⟩ | ⟨h, _⟩
    · omega
    · exact h
  obtain ⟨h1, rfl, rfl⟩ := do_back hd hr hc
  unfold dropE at h1
  unfold backF
  cases hg : aget M' o.snap with
  | none => rw [hg] at h1; simp at h1
  | some p => exact hk (o.snap, p) (aget_mem hg)
theorem kept_at {KM : KpM} {M : SnM} (hk : KeptOk KM M) {n : Nat} {E : ExM} {f : MpF} (h : Inv 20 E f M) {id : Int} (hid : id ∈ sIds M) : ∃ v, aget KM id = some (v, viewN 20 f M id) := by
  obtain ⟨p, hp, rfl⟩ := List.mem_map.1 ((sIds_perm M).mem_iff.1 hid)
  obtain ⟨v, hv⟩ := hk p hp
  exact ⟨v, by rw [view_mem h hp]; exact hv⟩
theorem new20 (w : World) : Calls Tryz.prog 11 #[.int .i64 20] w (StNewPost 20 w) := st_new 20 (by omega) w
/-- Rows of items that are the same. -/
theorem same_own {w : World} {b1 b2 : Nat} {v1 v2 : Value} {l : List It} (h1 : w.ownsRow b1 56 73 v1 l.length (itsC l)) (h2 : w.ownsRow b2 56 73 v2 l.length (itsC l)) (hb : ∀ i ∈ l, ItB i) (hl : l.length ≤ 1000000000) :
    Calls Tryz.prog 18 #[v1, v2] w fun e w' => e = .returned (.bool true) ∧ Below w.heap.size w w' := by
  obtain ⟨A1, c1, rfl, x1⟩ := Src.of_own h1
  obtain ⟨A2, c2, rfl, x2⟩ := Src.of_own h2
  refine (same_its ⟨A1, c1, rfl, x1⟩ rfl ⟨A2, c2, rfl, x2⟩ rfl hb hb (by omega) (by omega)).mono ?_
  rintro e w' ⟨rfl, hb⟩
  exact ⟨by rw [decide_eq_true rfl], hb⟩
end Go.Proofs.YtgjjdfhoakailaaGreat
