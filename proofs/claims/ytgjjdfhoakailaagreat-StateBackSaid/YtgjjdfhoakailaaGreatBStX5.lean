/-
  what this claim needs of: StX5 (written by cut.py).
-/
import Derived.Test.YtgjjdfhoakailaaGreatBStX
import Derived.Test.YtgjjdfhoakailaaGreatBStB
namespace Go.Proofs.YtgjjdfhoakailaaGreat
open Go.RowKit Go.Maps Go.Sort Go.Shelf
set_option linter.unusedVariables false
set_option linter.unusedSimpArgs false

theorem sortIts (base : Nat) (v : Value) (l : List It) (w : World) (hown : w.ownsRow base 56 73 v l.length (itsC l)) (hsz : l.length ≤ 1000000000) :
    Calls Tryz.prog 66 #[v, .func (.func 67) #[] #[]] w (SrtPost itC 73 base l.length 56 (fun x y => cmpK x.key y.key) v l w) :=
  sortFunc_own Tryz.sortIt 73 Tryz.isAgg56 Tryz.sizeOf56 itC itC_len itC_one _ (swo_key It.key) 67 (enters_of Tryz.func67 (by kernel_rfl) rfl) cmpIt base _ v l w hown hsz
def exIt (p : Key × Pl) : It := ⟨1, p.1, p.2, 0, 0, zSl⟩
def leIt (x y : It) : Bool := !(ltOf (fun x y : It => cmpK x.key y.key) y x)
def xItems (E : ExM) : List It := (E.map exIt).mergeSort leIt
theorem leIt_trans (a b c : It) (h1 : leIt a b = true) (h2 : leIt b c = true) : leIt a c = true := by
  have := (swo_key It.key).ntrans c b a
  unfold leIt at *
  simp at h1 h2 ⊢
  exact this h2 h1
theorem leIt_total (a b : It) : (leIt a b || leIt b a) = true := by
  have h := (swo_key It.key)
  unfold leIt
  cases h1 : ltOf (fun x y : It => cmpK x.key y.key) b a
  · rfl
  · cases h2 : ltOf (fun x y : It => cmpK x.key y.key) a b
    · rfl
    · have := h.trans _ _ _ h1 h2
      rw [h.irrefl] at this
      cases this
theorem xItems_perm (E : ExM) : (xItems E).Perm (E.map exIt) := List.mergeSort_perm _ _
theorem xItems_sorted (E : ExM) : (xItems E).Pairwise (fun a b => leIt a b = true) := List.pairwise_mergeSort leIt_trans leIt_total _
theorem xItems_len (E : ExM) : (xItems E).length = E.length := by rw [(xItems_perm E).length_eq, List.length_map]
theorem xItems_eq {E : ExM} (hu : Uniq E) {l : List It} (hp : l.Perm (E.map exIt)) (hs : l.Pairwise (fun x y => ltOf (fun x y : It => cmpK x.key y.key) y x = false)) : l = xItems E := by
  refine List.Perm.eq_of_pairwise (le := fun a b => leIt a b = true) (fun a b ha hb h1 h2 => ?_) (hs.imp (fun {a b} h => by unfold leIt; rw [h]; rfl)) (xItems_sorted E) (hp.trans (xItems_perm E).symm)
  obtain ⟨p, hp1, rfl⟩ := List.mem_map.1 (hp.mem_iff.1 ha)
  obtain ⟨q, hq1, rfl⟩ := List.mem_map.1 ((xItems_perm E).mem_iff.1 hb)
  unfold leIt ltOf at h1 h2
  simp at h1 h2
  have hk : p.1 = q.1 := cmpK_zero (K := p.1) (L := q.1) h2 h1
  have e1 := aget_of_mem hu (x := p.1) (v := p.2) hp1
  have e2 := aget_of_mem hu (x := q.1) (v := q.2) hq1
  rw [hk, e2] at e1
  injection e1 with e1
  unfold exIt
  rw [hk, e1]
theorem RangeIs.tbelow {α β : Type} [DecidableEq α] {P : Program} {k : TypeId} {kv : α → Value} {kl : α → Lit} {ve : β → Value} {w w' : World} {b r : Nat} {M todo : List (α × β)} (h : RangeIs P k kv kl ve w b r M todo) (hb : Below w.heap.size w w') : RangeIs P k kv kl ve w' b r M todo := h.tch (T := []) (Tch.below hb) (by simp) (by simp)
theorem RangeIs.iter {α β : Type} [DecidableEq α] {P : Program} {k : TypeId} {kv : α → Value} {kl : α → Lit} {ve : β → Value} {w : World} {b r : Nat} {M todo : List (α × β)} (h : RangeIs P k kv kl ve w b r M todo) : ∃ s n c d, w.heap[r]? = some (.mapIter s n c d) := by
  obtain ⟨es, left, done, ⟨e2, c, s, sn, c0, g1, g2, g3, g4, g5, g6⟩, rest⟩ := h
  exact ⟨_, _, _, _, g5⟩
theorem own_obj {w : World} {base n sz : Nat} {e : TypeId} {v : Value} {xs : List Value} (h : w.ownsRow base e sz v n xs) {b : Nat} (hb : v.ownBlock = some b) : ∃ cs, w.heap[b]? = some (.cells cs e (0, 0)) := by
  rcases h.2 with ⟨rfl, _⟩ | ⟨g, cap, cur, rfl, _, h1, _⟩
  · cases hb
  · injection hb with hb
    simp only at hb
    subst hb
    exact ⟨_, h1⟩
theorem own_ne_iter {α β : Type} [DecidableEq α] {P : Program} {k : TypeId} {kv : α → Value} {kl : α → Lit} {ve : β → Value} {w : World} {b r : Nat} {M todo : List (α × β)} (h : RangeIs P k kv kl ve w b r M todo) {base n sz : Nat} {e : TypeId} {v : Value} {xs : List Value} (ho : w.ownsRow base e sz v n xs) : v.ownBlock ≠ some r ∧ v.ownBlock ≠ some b := by
  refine ⟨fun hv => ?_, fun hv => ?_⟩
  · obtain ⟨cs, h1⟩ := own_obj ho hv
    obtain ⟨s, m, c, d, h2⟩ := h.iter
    rw [h1] at h2
    cases h2
  · obtain ⟨cs, h1⟩ := own_obj ho hv
    obtain ⟨es, c, h2⟩ := h.owns.obj
    rw [h1] at h2
    cases h2
structure XRI (w : World) (xi bx r : Nat) (E : ExM) (v3 : Value) (l : List It) (todo : ExM) (wr : World) : Prop where
  blk : Blk wr xi 103 #[.map (some bx)]
  rng : RangeIs Tryz.prog 50 vKey klK vPl wr bx r E todo
  out : wr.ownsRow w.heap.size 56 73 v3 l.length (itsC l)
  low : Below w.heap.size w wr
  what : ∃ done, E.Perm (done ++ todo) ∧ l = done.map exIt
theorem XRI.len {w : World} {xi bx r : Nat} {E : ExM} {v3 : Value} {l : List It} {todo : ExM} {wr : World} (h : XRI w xi bx r E v3 l todo wr) : l.length + todo.length = E.length := by
  obtain ⟨done, h1, h2⟩ := h.what
  rw [h1.length_eq, h2]
  simp
def XMI (w : World) (xi bx r : Nat) (E : ExM) (k : Nat) (v3 : Value) (wr : World) : Prop := ∃ l todo, k = todo.length ∧ XRI w xi bx r E v3 l todo wr
set_option maxRecDepth 100000 in
set_option maxHeartbeats 2000000 in
theorem xItems_any {w : World} {xi bx : Nat} {E : ExM} (h : IdxIs w xi bx E) (hE : E.length ≤ 100000000) : Calls Tryz.prog 23 #[.pointer (some ⟨xi, 0, none⟩)] w fun e w' => ∃ v, e = .returned v ∧ w'.ownsRow w.heap.size 56 73 v (xItems E).length (itsC (xItems E)) ∧ Below w.heap.size w w' := by
  have H := Lib.hid h
  have c0 := h.cell
  clear h
  go_enter Tryz.func23, Tryz.ntmps23
  go_wp2_with (first
    | (go_at_call 65; refine (x_there H.out).mono ?_; rintro e w3 ⟨rfl, rfl⟩)
    | ((with_reducible show wpList _ _ _ (_ :: _) _ _); refine wpl_mrange rfl 101 (.tmp 12) rfl keyed_key Tryz.underlying101 H.out.map rfl ?_; intro w1 hr hg hz; have R1 := Lib.hid hr; have G1 := Lib.hid hg; clear hr hg hz))
  have L1 := Lib.hid (bl_n (Below.refl _ _) G1.out)
  have X1 := Lib.hid (show XRI w xi bx w.heap.size E (.slice none 0 0) [] E w1 from ⟨H.out.blk.grown G1.out (by simp), R1.out, World.ownsRow_nil _ _ _ _, L1.out, [], List.Perm.refl _, rfl⟩)
  go_frame
  clear R1 G1 L1
  go_loopg [3] E.length (fun k v3 wr => XMI w xi bx w.heap.size E k v3 wr)
  case atStart => exact ⟨[], E, rfl, X1.out⟩
  case round =>
    obtain ⟨l, todo, hk, hX⟩ := hrel
    have X := Lib.hid hX
    have HK := Lib.hid hk
    clear hX hk X1
    go_wp2_with ((with_reducible show wpList _ _ _ (_ :: _) _ _); refine wpl_mnext rfl (.tmp 13) rfl keyed_key X.out.rng rfl (fun p _ q _ h => klK_inj h) ?_ ?_)
    · intro htd
      have hl := X.out.len
      rw [htd, List.length_nil, Nat.add_zero] at hl
      have HTd := Lib.hid htd
      have HLn := Lib.hid hl
      clear htd hl
      have hlb : l.length ≤ 1000000000 := by rw [HLn.out]; omega
      go_wp2_with (go_at_call 66; refine (sortIts w.heap.size u3 l wr X.out.out hlb).mono ?_; rintro e w2 ⟨rfl, l', hp, hs, ho, hg⟩; have P := Lib.hid hp; have S := Lib.hid hs; have O := Lib.hid ho; have G := Lib.hid hg; clear hp hs ho hg)
      go_ret
      obtain ⟨done, h1, h2⟩ := X.out.what
      rw [HTd.out, List.append_nil] at h1
      have e : l' = xItems E := xItems_eq X.out.rng.owns.uniq (P.out.trans (by rw [h2]; exact (h1.map exIt).symm)) S.out
      have ho := O.out
      rw [e, show l.length = (xItems E).length by rw [xItems_len]; exact HLn.out] at ho
      exact ⟨_, rfl, ho, (X.out.low).grown G.out X.out.low.size (fun k hk => (own_at X.out.out k hk).1)⟩
    · intro kv kp pl todo' w1' hperm hR hg hsz hen
      obtain ⟨K, hK⟩ : ∃ K : Key, (⟨kv, kp⟩ : Key) = K := ⟨_, rfl⟩
      rw [hK] at hperm hen
      rw [hK]
      clear hK kp kv
      have hne := own_ne_iter X.out.rng X.out.out
      have hxr : xi ≠ w.heap.size := by
        obtain ⟨s, m, c, d, h2⟩ := X.out.rng.iter
        have h3 := X.out.blk
        intro e
        unfold Blk at h3
        rw [e, h2] at h3
        cases h3
      have Bx := Lib.hid (X.out.blk.grown hg (by simp; exact hxr))
      have Ox := Lib.hid (own_keptR X.out.out hg (fun b hb => by injection hb with hb; subst hb; exact hne.1))
      have Lx := Lib.hid (bl_g X.out.low hg (Nat.le_refl _))
      have Rx := Lib.hid hR
      have Px := Lib.hid hperm
      have Wx := Lib.hid X.out.what
      have HXl := Lib.hid X.out.len
      clear hne hxr hg hsz hR hperm X
      go_upto_region 7 with (first
        | ((with_reducible show wpList _ _ _ (_ :: _) _ _); refine wpl_alloc rfl 50 rfl Tryz.zeroValue50 32 rfl ?_; intro wA csA hk hc hg hz; have KA := Lib.hid hk; have CA := Lib.hid hc; have GA := Lib.hid hg; clear hk hc hg hz)
        | ((with_reducible show wpList _ _ _ (_ :: _) _ _); refine wpl_alloc rfl 52 rfl Tryz.zeroValue52 4 rfl ?_; intro wB csB hk hc hg hz; have KB := Lib.hid hk; have CB := Lib.hid hc; have GB := Lib.hid hg; clear hk hc hg hz; have KA2 := Lib.hid (KA.out.grown GB.out (by simp)))
        | ((with_reducible show wpList _ _ _ (_ :: _) _ _); refine wpl_over rfl 50 (.tmp 4) (.tmp 17) rfl w1'.heap.size (keyL K) rfl rfl _ csA KA2.out (keyL_info K) (by rw [keyL_len, CA.out]) (keyL_one K) ?_; intro wC hk hg hz; have KC := Lib.hid hk; have GC := Lib.hid hg; clear hk hg hz; have KB2 := Lib.hid (KB.out.grown GC.out (by have := blk_ne_ty KB.out KA2.out (by decide); simp; exact this)))
        | ((with_reducible show wpList _ _ _ (_ :: _) _ _); refine wpl_over rfl 52 (.tmp 5) (.tmp 18) rfl wA.heap.size (plC pl) rfl rfl _ csB KB2.out (plC_info pl) (by rw [CB.out]; rfl) (plC_one pl) ?_; intro wD hk hg hz; have KD := Lib.hid hk; have GD := Lib.hid hg; clear hk hg hz; have KC2 := Lib.hid (KC.out.grown GD.out (by have := blk_ne_ty KC.out KB2.out (by decide); simp; exact this))))
      have LD := Lib.hid (show Below w1'.heap.size w1' wD from bl_g (bl_g (bl_n (bl_n (Below.refl _ _) GA.out) GB.out) GC.out (Nat.le_refl _)) GD.out GA.out.size)
      have Bd := Lib.hid (Bx.out.below LD.out Bx.out.lt)
      have Od := Lib.hid (own_belowR Ox.out LD.out)
      have Ld := Lib.hid (below_chain Lx.out LD.out)
      have Rd := Lib.hid (Rx.out.tbelow LD.out)
      have Q1 := Lib.hid (show wD.rangeAt w1'.heap.size 0 (keyL K) by have := KC2.out.range; rwa [toArr] at this)
      have Q2 := Lib.hid (show wD.rangeAt wA.heap.size 0 (plC pl) by have := KD.out.range; rwa [toArr] at this)
      have hlb : l.length ≤ 1000000000 := by have := HXl.out; omega
      clear KA CA GA KB CB GB KA2 KC GC KB2 KD GD KC2 Bx Ox Lx Rx hen
      go_wp2_with (first
        | ((with_reducible show wpList _ _ _ (_ :: _) _ _); refine wpList_load_mid rfl 50 (.tmp 4) rfl w1'.heap.size 0 rfl (keyL K) _ Q1.out Tryz.underlying50 rfl (keyL_info _) ?_)
        | ((with_reducible show wpList _ _ _ (_ :: _) _ _); refine wpList_load_mid rfl 52 (.tmp 5) rfl wA.heap.size 0 rfl (plC pl) _ Q2.out Tryz.underlying52 rfl (plC_info _) ?_)
        | ((with_reducible show wpList _ _ _ (_ :: _) _ _); refine wpl_mk rfl 56 #[(0, .const (.int .u8 1)), (1, .tmp 20), (2, .tmp 21)] rfl [(0, .int .u8 1), (1, .agg (keyL K).toArray), (2, .agg (plC pl).toArray)] rfl _ (built_ext K pl) ?_)
        | ((with_reducible show wpList _ _ _ (_ :: _) _ _); refine wpl_lit_it rfl (.tmp 22) rfl (exIt (K, pl)) rfl ?_; intro wE hk hg hz; have KE := Lib.hid hk; have GE := Lib.hid hg; clear hk hg hz; have LE := Lib.hid (show Below wD.heap.size wD wE from bl_n (Below.refl _ _) GE.out); have Oe := Lib.hid (own_belowR Od.out LE.out); have Le := Lib.hid (below_chain Ld.out LE.out))
        | ((with_reducible show wpList _ _ _ (_ :: _) _ _); refine wpl_app_it rfl (.tmp 19) (.tmp 23) rfl w.heap.size u3 l rfl Oe.out _ (exIt (K, pl)) rfl KE.out hlb Le.out.size ?_; intro v' wF ho hg; have OF := Lib.hid ho; have GF := Lib.hid hg; clear ho hg))
      go_roundg todo'.length
      case measure => rw [HK.out, Px.out.length_eq, List.length_cons]; omega
      case rel =>
        obtain ⟨done, h1, h2⟩ := Wx.out
        have Re := Rd.out.tbelow LE.out
        have hne := own_ne_iter Re Oe.out
        refine ⟨l ++ [exIt (K, pl)], todo', rfl, (Bd.out.below LE.out Bd.out.lt).grown GF.out (fun e => own_blk Oe.out (Bd.out.below LE.out Bd.out.lt) (by decide) e.symm), Re.kept GF.out (fun e => hne.2 e.symm) (fun e => hne.1 e.symm), OF.out, Le.out.grown GF.out Le.out.size (fun k hk => (own_at Oe.out k hk).1), done ++ [(K, pl)], ?_, ?_⟩
        · rw [List.append_assoc]
          exact h1.trans (List.Perm.append_left _ Px.out)
        · rw [h2, List.map_append]; rfl
end Go.Proofs.YtgjjdfhoakailaaGreat
