/-
  state, plain: Do keeps what holds of a state; an error changes nothing.
-/
import Derived.Test.YtgjjdfhoakailaaGreatStP3
namespace Go.Proofs.YtgjjdfhoakailaaGreat
open Go.RowKit Go.Maps Go.Sort Go.Shelf
set_option linter.unusedVariables false
set_option linter.unusedSimpArgs false

theorem aget_mem_some {α β : Type} [DecidableEq α] {M : List (α × β)} (hu : Uniq M) {p : α × β} (h : p ∈ M) : aget M p.1 = some p.2 := aget_of_mem hu (x := p.1) (v := p.2) h
theorem SlOk.mono {E E1 : ExM} {s : Sl} (h : SlOk E s) (hE : ∀ K p, aget E K = some p → aget E1 K = some p) : SlOk E1 s := by
  obtain ⟨h1, h2, h3, h4, p, hp, h5⟩ := h
  exact ⟨h1, h2, h3, h4, p, hE _ _ hp, h5⟩
theorem SlOk.sub {E : ExM} {s t : Sl} (h : SlOk E t) (hs : SubSl s t) (hm : s.mask ≠ 0) : SlOk E s := by
  obtain ⟨h1, h2, h3, h4, p, hp, h5⟩ := h
  have h6 := hs.2.2 hm
  have h7 := hs.1
  have h8 := hs.2.1
  refine ⟨by omega, by omega, by rw [h6.2]; exact h3, by rw [h6.2]; exact h4, p, by rw [h6.1]; exact hp, by rw [h6.2]; exact h5⟩
theorem keep_inv {n : Nat} {E : ExM} {f f' : MpF} {M M' : SnM} (hn : n ≤ 512) (h : Inv n E f M) (huM : Uniq M') (hids : ∀ p ∈ M', 1 ≤ p.1 ∧ p.1 ≤ 1073741824) (hlen : M'.length ≤ 8)
    (hc : ∀ g, IsMap f' M' g → ∀ u, u < n → (g u).mask ≠ 0 → SlOk E (g u)) (hw : ∀ g, IsMap f' M' g → ∀ u, 0 ≤ (g u).mask ∧ (g u).mask ≤ 255) :
    Inv n (fixE E (deltaC (countC (mItems n f M)) (countC (mItems n f' M')))) f' M' :=
  inv_fix hn h.uniq huM hids hlen (fun K p hp => (h.ref K p hp).1) h.may hc hw (fun K p hp h0 => by
    have := h.ref K p hp
    omega)
theorem step_inv {n : Nat} {E : ExM} {f : MpF} {M : SnM} {o : OpV} {E1 : ExM} {f' : MpF} {M' : SnM} (hn : n ≤ 512) (h : Inv n E f M) (ho : rightB o = true) (hs : StepR n E f M o 0 E1 f' M') :
    Inv n (fixE E1 (deltaC (countC (mItems n f M)) (countC (mItems n f' M')))) f' M' := by
  obtain ⟨_, hw, hsn⟩ := right_kind ho
  rcases hs with ⟨hk, h0, rfl, rfl, rfl⟩ | ⟨hk, rfl, h0, rfl, rfl⟩ | ⟨hk, rfl, h0, rfl, h3⟩ | ⟨hk, rfl, h0, rfl, rfl⟩ | ⟨hk, rfl, h0, rfl, rfl⟩
  · -- a write
    rw [if_pos h0.symm, if_pos h0.symm]
    have W := wr_ok (hw hk) h0.symm
    have hget := addAll_get W.fr W.nd W.there
    have hold : ∀ K p, aget E K = some p → aget (addAll E o.news) K = some p := fun K p hp => by rw [hget, hp]; rfl
    have hnew : ∀ K p, aget (addAll E o.news) K = some p → aget E K = some p ∨ (aget E K = none ∧ ∃ x ∈ o.news, x.key = K ∧ x.pl = p) := fun K p hp => by
      rw [hget] at hp
      cases he : aget E K with
      | some q => rw [he] at hp; exact .inl hp
      | none =>
        rw [he] at hp
        simp only [Option.none_or] at hp
        cases hf : o.news.find? (fun p => decide (p.key = K)) with
        | none => rw [hf] at hp; cases hp
        | some x =>
          rw [hf] at hp
          exact .inr ⟨rfl, x, List.mem_of_find?_eq_some hf, by simpa using List.find?_some hf, by simpa using hp⟩
    have hcnt0 : ∀ K, aget E K = none → cntI (mItems n f M') K = 0 := fun K hK => by
      by_cases hc : cntI (mItems n f M') K = 0
      · exact hc
      · obtain ⟨g, hg, u, hu, hm, hk⟩ := (h.cnt K).1 hc
        obtain ⟨_, _, _, _, p, hp, _⟩ := h.has g hg u hu hm
        rw [hk, hK] at hp
        cases hp
    refine inv_fix hn (addAll_uniq h.uniq _) h.uniqM h.ids h.len ?_ ?_ ?_ ?_ ?_
    · intro K p hp
      rcases hnew K p hp with hp | ⟨he, x, hx, _, rfl⟩
      · exact (h.ref K p hp).1
      · rw [(frB_may (List.all_eq_true.1 W.fr x hx)).2, hcnt0 K he]
    · intro K p hp
      rcases hnew K p hp with hp | ⟨he, x, hx, _, rfl⟩
      · exact h.may K p hp
      · exact (frB_may (List.all_eq_true.1 W.fr x hx)).1
    · rintro g (rfl | ⟨p, hp, rfl⟩) u hu hm
      · rw [W.set] at hm ⊢
        cases hf : o.puts.find? (fun p => decide (p.unit = (u : Int))) with
        | none =>
          rw [hf] at hm
          exact (h.has f (.inl rfl) u hu hm).mono hold
        | some x =>
          have hx := List.mem_of_find?_eq_some hf
          have h1 := W.puts x hx
          have h2 := W.ok x hx
          simp only [Option.map_some, Option.getD_some]
          refine ⟨by omega, by omega, by omega, by omega, ?_⟩
          have h3 := h2.2
          unfold uniOf at h3
          rw [frM_get W.nd] at h3
          cases hf2 : o.news.find? (fun p => decide (p.key = x.sl.key)) with
          | none =>
            rw [hf2] at h3
            simp only [Option.map_none] at h3
            cases he : aget E x.sl.key with
            | none =>
              rw [he] at h3
              simp [zPl] at h3
              omega
            | some p =>
              rw [he] at h3
              exact ⟨p, hold _ _ he, h3⟩
          | some y =>
            rw [hf2] at h3
            have hy := List.mem_of_find?_eq_some hf2
            have hyk : y.key = x.sl.key := by simpa using List.find?_some hf2
            have hyE : aget E x.sl.key = none := by
              have := W.there
              unfold thereB at this
              have := List.any_eq_false.1 this y hy
              rw [hyk] at this
              simpa using this
            refine ⟨y.pl, ?_, h3⟩
            rw [hget, hyE, hf2]
            rfl
      · exact (h.has p.2.2 (.inr ⟨p, hp, rfl⟩) u hu hm).mono hold
    · rintro g (rfl | ⟨p, hp, rfl⟩) u
      · rw [W.set]
        cases hf : o.puts.find? (fun p => decide (p.unit = (u : Int))) with
        | none => exact h.mask f (.inl rfl) u
        | some x =>
          have h1 := W.puts x (List.mem_of_find?_eq_some hf)
          simp only [Option.map_some, Option.getD_some]
          omega
      · exact h.mask p.2.2 (.inr ⟨p, hp, rfl⟩) u
    · intro K p hp h00
      rcases hnew K p hp with hp | ⟨he, x, hx, rfl, rfl⟩
      · have := h.ref K p hp
        omega
      · obtain ⟨q, hq, hqk⟩ := W.wanted x hx
        refine (cnt_pos h.uniqM (fun p hp => (h.ids p hp).1) _).2 ⟨_, .inl rfl, q.unit.toNat, ?_, ?_, ?_⟩
        · have h1 := W.puts q hq
          have h2 := W.ok q hq
          omega
        · rw [W.set_at f hq]
          have := W.puts q hq
          omega
        · rw [W.set_at f hq]
          exact hqk
  · -- a discard
    have hsub : ∀ u, SubSl (clrF n f o.pos o.n u) (f u) := by
      unfold clrF
      rw [if_pos h0.symm]
      exact clrGo_sub _ _ _ _ (h.mask f (.inl rfl))
    refine keep_inv hn h h.uniqM h.ids h.len ?_ ?_
    · rintro g (rfl | ⟨p, hp, rfl⟩) u hu hm
      · have h1 := hsub u
        exact (h.has f (.inl rfl) u hu (by have := h1.1; have := h1.2.1; omega)).sub h1 hm
      · exact h.has p.2.2 (.inr ⟨p, hp, rfl⟩) u hu hm
    · rintro g (rfl | ⟨p, hp, rfl⟩) u
      · have h1 := hsub u
        have h2 := h.mask f (.inl rfl) u
        exact ⟨h1.1, Int.le_trans h1.2.1 h2.2⟩
      · exact h.mask p.2.2 (.inr ⟨p, hp, rfl⟩) u
  · -- a snapshot
    rcases h3 with ⟨h3, _⟩ | ⟨h3, g0, rfl⟩
    · exact absurd h0.symm h3
    · have hmem : ∀ p ∈ aput M o.snap (g0, f'), p = (o.snap, (g0, f')) ∨ p ∈ M := fun p hp => by
        unfold aput at hp
        rcases List.mem_cons.1 hp with hp | hp
        · exact .inl hp
        · exact .inr (mem_adel hp)
      have hmap : ∀ g, IsMap f' (aput M o.snap (g0, f')) g → IsMap f' M g := by
        rintro g (rfl | ⟨p, hp, rfl⟩)
        · exact .inl rfl
        · rcases hmem p hp with rfl | hp
          · exact .inl rfl
          · exact .inr ⟨p, hp, rfl⟩
      have hl : M.length < 8 := by
        unfold snapE at h3
        split at h3
        · cases h3
        · split at h3
          · cases h3
          · split at h3
            · cases h3
            · omega
      refine keep_inv hn h (h.uniqM.put _ _) ?_ ?_ (fun g hg => h.has g (hmap g hg)) (fun g hg => h.mask g (hmap g hg))
      · intro p hp
        rcases hmem p hp with rfl | hp
        · exact hsn (by omega)
        · exact h.ids p hp
      · have := aput_len M o.snap (g0, f')
        omega
  · -- a deletion
    have hmap : ∀ g, IsMap f' (adel M o.snap) g → IsMap f' M g := by
      rintro g (rfl | ⟨p, hp, rfl⟩)
      · exact .inl rfl
      · exact .inr ⟨p, mem_adel hp, rfl⟩
    exact keep_inv hn h (h.uniqM.del _) (fun p hp => h.ids p (mem_adel hp)) (Nat.le_trans (adel_le' _ _) h.len) (fun g hg => h.has g (hmap g hg)) (fun g hg => h.mask g (hmap g hg))
  · -- a rollback
    have hmap : ∀ g, IsMap (backF f M' o.snap) M' g → IsMap f M' g := by
      rintro g (rfl | ⟨p, hp, rfl⟩)
      · unfold backF
        cases hg : aget M' o.snap with
        | none => exact .inl rfl
        | some p => exact .inr ⟨_, aget_mem hg, rfl⟩
      · exact .inr ⟨p, hp, rfl⟩
    exact keep_inv hn h h.uniqM h.ids h.len (fun g hg => h.has g (hmap g hg)) (fun g hg => h.mask g (hmap g hg))
theorem do_inv {n : Nat} {E : ExM} {f : MpF} {M : SnM} {o : OpV} {r : Int} {E' : ExM} {f' : MpF} {M' : SnM} (hn : n ≤ 512) (h : Inv n E f M) (hd : DoR n E f M o r E' f' M') : Inv n E' f' M' ∧ E'.length ≤ E.length + 18 := by
  rcases hd with ⟨_, rfl, rfl, rfl, rfl⟩ | ⟨ho, E1, hs, rfl⟩
  · exact ⟨h, by omega⟩
  · by_cases hr : r = 0
    · subst hr
      rw [if_pos rfl]
      refine ⟨step_inv hn h ho hs, ?_⟩
      have hE1 : Uniq E1 ∧ E1.length ≤ E.length + 18 := by
        obtain ⟨_, hw, _⟩ := right_kind ho
        rcases hs with ⟨hk, _, rfl, _⟩ | ⟨_, rfl, _⟩ | ⟨_, rfl, _⟩ | ⟨_, rfl, _⟩ | ⟨_, rfl, _⟩
        · have h1 := addAll_len E o.news
          have h2 : o.news.length ≤ 18 := by
            have := hw hk
            unfold writeB at this
            simp only [Bool.and_eq_true, decide_eq_true_eq] at this
            exact this.1.2
          split
          · exact ⟨addAll_uniq h.uniq _, by omega⟩
          · exact ⟨h.uniq, by omega⟩
        all_goals exact ⟨h.uniq, by omega⟩
      exact Nat.le_trans (fixE_uniq hE1.1 _).2 hE1.2
    · rw [if_neg hr]
      obtain ⟨rfl, rfl, rfl⟩ := step_err hs h.uniqM hr
      exact ⟨h, by omega⟩
/-- An error changes nothing. -/
theorem do_err {n : Nat} {E : ExM} {f : MpF} {M : SnM} {o : OpV} {r : Int} {E' : ExM} {f' : MpF} {M' : SnM} (h : Inv n E f M) (hd : DoR n E f M o r E' f' M') (hr : r ≠ 0) : E' = E ∧ f' = f ∧ M' = M := by
  rcases hd with ⟨_, rfl, rfl, rfl, rfl⟩ | ⟨ho, E1, hs, rfl⟩
  · exact ⟨rfl, rfl, rfl⟩
  · rw [if_neg hr]
    exact step_err hs h.uniqM hr
end Go.Proofs.YtgjjdfhoakailaaGreat
