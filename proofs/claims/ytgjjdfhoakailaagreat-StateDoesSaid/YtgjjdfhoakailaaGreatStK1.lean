/-
  law 26: view: walked; Do, with what it leaves alone.
-/
import Derived.Test.YtgjjdfhoakailaaGreatStP6
import Derived.Test.YtgjjdfhoakailaaGreatStN3
namespace Go.Proofs.YtgjjdfhoakailaaGreat
open Go.RowKit Go.Maps Go.Sort Go.Shelf
set_option linter.unusedVariables false
set_option linter.unusedSimpArgs false

theorem built_vw (u : Int) (x : Sl) : Tryz.prog.built 56 [(0, .int .u8 2), (4, .int .i64 u), (5, .agg (slC x).toArray)] = some (itC ⟨2, zKey, zPl, 0, u, x⟩).toArray := by
  rw [built_it, fill_cons 0 [.int .u8 2] rfl rfl (by simp [itC_len]), put_kind, fill_cons 38 [.int .i64 u] rfl rfl (by simp [itC_len]), put_unit, fill_cons 39 (slC x) (by simp [Value.cells]) (by rw [slC_len]; rfl) (by simp [itC_len, slC_len]), put_sl]
  rfl
def VwI (w : World) (n : Nat) (f : MpF) (M : SnM) (snap : Int) (k : Nat) (v uv : Value) (wr : World) : Prop :=
  ∃ (u : Nat) (l : List It), uv = .int .i64 (u : Int) ∧ u ≤ n ∧ u + k ≤ n ∧ n ≤ u + k ∧ l = viewN u f M snap ∧ l.length ≤ u ∧ wr.ownsRow w.heap.size 56 73 v l.length (itsC l) ∧ Below w.heap.size w wr
set_option maxRecDepth 100000 in
set_option maxHeartbeats 400000 in
theorem view_any {w : World} {si xi bx mi bs n : Nat} {E : ExM} {f : MpF} {M : SnM} (h : StIs w si xi bx mi bs n E f M) (snap N : Int) (hs : -9223372036854775808 ≤ snap ∧ snap ≤ 9223372036854775807) (hN : N = (n : Int)) :
    Calls Tryz.prog 27 #[.pointer (some ⟨si, 0, none⟩), .int .i64 snap, .int .i64 N] w (MItPost (viewN n f M snap) w) := by
  have H := Lib.hid h
  have hn := h.maps.high
  have HS := Lib.hid hs
  subst hN
  clear h hs
  go_enter Tryz.func27, Tryz.ntmps27
  go_upto_region 3 with fail
  go_loopg [7, 8] n (fun k v uv wr => VwI w n f M snap k v uv wr)
  case atStart => exact ⟨0, [], rfl, by omega, by omega, by omega, (by unfold viewN; cases ofS f M snap <;> rfl), by simp, World.ownsRow_nil _ _ _ _, Below.refl _ _⟩
  case round =>
    obtain ⟨u, l, rfl, i1, i2, i3, hl, hll, ho, hb⟩ := hrel
    have HL := Lib.hid hl
    have HLL := Lib.hid hll
    have O := Lib.hid ho
    have L := Lib.hid hb
    clear hl hll ho hb
    by_cases hu : u < n
    · have huI : (u : Int) < (n : Int) := by omega
      have H1 := Lib.hid (H.out.below L.out)
      have HV := Lib.hid (view_succ n u f M snap hu)
      obtain ⟨r, hr⟩ : ∃ r, r = getS n f M snap (u : Int) := ⟨_, rfl⟩
      rw [← hr] at HV
      have HR := Lib.hid (show ∀ W : World, MapsIs W mi bs n f M → Calls Tryz.prog 72 #[.pointer (some ⟨mi, 0, none⟩), .int .i64 snap, .int .i64 (u : Int)] W (GetPost r W) from fun W hW => by rw [hr]; exact get_any hW snap (u : Int) HS.out)
      clear hr
      cases r with
      | none =>
        have E1 := Lib.hid (show l = viewN (u + 1) f M snap from by have h := HV.out; simp only [List.append_nil] at h; rw [h, ← HL.out])
        have E2 := Lib.hid (show l.length ≤ u + 1 from by have h := HLL.out; omega)
        go_wp2_with (first
          | (go_at_call 26; refine (st_maps H1.out).mono ?_; rintro e w1 ⟨rfl, rfl⟩)
          | (go_at_call 72; refine (HR.out _ H1.out.maps).mono ?_; rintro e w2 ⟨rfl, hb⟩; have L2 := Lib.hid hb; clear hb; simp only [Option.getD_none, Option.isSome_none, vSl])
          | ((with_reducible show wpList _ _ _ (_ :: _) _ _); refine wpl_alloc rfl 54 rfl Tryz.zeroValue54 34 rfl ?_; intro w3 cs hk hc hg hz; have K := Lib.hid hk; have C := Lib.hid hc; have L3 := Lib.hid (bl_n L2.out hg); clear hk hc hg hz; simp only [Act.put, List.setIfInBounds_toArray, List.set_cons_zero, List.set_cons_succ])
          | ((with_reducible show wpList _ _ _ (_ :: _) _ _); refine wpl_over rfl 54 (.tmp 9) (.tmp 22) rfl w2.heap.size (slC zSl) rfl rfl _ cs K.out (slC_info zSl) (by rw [slC_len, C.out]) (slC_one zSl) ?_; intro w4 hk hg hz; have K2 := Lib.hid hk; have L4 := Lib.hid (bl_g L3.out hg L2.out.size); clear hk hg hz; simp only [Act.put, List.setIfInBounds_toArray, List.set_cons_zero, List.set_cons_succ]))
        go_roundg (gk - 1)
        case measure => omega
        case rel => exact ⟨u + 1, l, by congr 1, by omega, by omega, by omega, E1.out, E2.out, own_belowR O.out L4.out, below_chain L.out L4.out⟩
      | some s =>
        have E1 := Lib.hid (show l ++ [(⟨2, zKey, zPl, 0, (u : Int), s⟩ : It)] = viewN (u + 1) f M snap from by have h := HV.out; simp only at h; rw [h, ← HL.out])
        have E2 := Lib.hid (show (l ++ [(⟨2, zKey, zPl, 0, (u : Int), s⟩ : It)]).length ≤ u + 1 from by have h := HLL.out; rw [List.length_append, List.length_singleton]; omega)
        go_upto_region 7 with (first
          | (go_at_call 26; refine (st_maps H1.out).mono ?_; rintro e w1 ⟨rfl, rfl⟩)
          | (go_at_call 72; refine (HR.out _ H1.out.maps).mono ?_; rintro e w2 ⟨rfl, hb⟩; have L2 := Lib.hid hb; clear hb; simp only [Option.getD_some, Option.isSome_some, vSl])
          | ((with_reducible show wpList _ _ _ (_ :: _) _ _); refine wpl_alloc rfl 54 rfl Tryz.zeroValue54 34 rfl ?_; intro w3 cs hk hc hg hz; have K := Lib.hid hk; have C := Lib.hid hc; have L3 := Lib.hid (bl_n L2.out hg); clear hk hc hg hz; simp only [Act.put, List.setIfInBounds_toArray, List.set_cons_zero, List.set_cons_succ])
          | ((with_reducible show wpList _ _ _ (_ :: _) _ _); refine wpl_over rfl 54 (.tmp 9) (.tmp 22) rfl w2.heap.size (slC s) rfl rfl _ cs K.out (slC_info s) (by rw [slC_len, C.out]) (slC_one s) ?_; intro w4 hk hg hz; have K2 := Lib.hid hk; have L4 := Lib.hid (bl_g L3.out hg L2.out.size); clear hk hg hz; simp only [Act.put, List.setIfInBounds_toArray, List.set_cons_zero, List.set_cons_succ]))
        have R4 := Lib.hid (show w4.rangeAt w2.heap.size 0 (slC s) by have := K2.out.range; rwa [toArr] at this)
        have L04 := Lib.hid (below_chain L.out L4.out)
        have O4 := Lib.hid (own_belowR O.out L4.out)
        have hll := HLL.out
        go_wp2_with (first
          | ((with_reducible show wpList _ _ _ (_ :: _) _ _); refine wpList_load_mid rfl 54 (.tmp 9) rfl w2.heap.size 0 rfl (slC s) _ R4.out Tryz.underlying54 rfl (slC_info s) ?_; simp only [Act.put, List.setIfInBounds_toArray, List.set_cons_zero, List.set_cons_succ])
          | ((with_reducible show wpList _ _ _ (_ :: _) _ _); refine wpl_mk rfl 56 #[(0, .const (.int .u8 2)), (4, .tmp 26), (5, .tmp 27)] (by rfl) [(0, .int .u8 2), (4, .int .i64 (u : Int)), (5, .agg (slC s).toArray)] (by rfl) _ (built_vw (u : Int) s) ?_; simp only [Act.put, List.setIfInBounds_toArray, List.set_cons_zero, List.set_cons_succ])
          | ((with_reducible show wpList _ _ _ (_ :: _) _ _); refine wpl_lit_it rfl (.tmp 28) (by rfl) ⟨2, zKey, zPl, 0, (u : Int), s⟩ (by rfl) ?_; intro w5 hk hg hz; have K5 := Lib.hid hk; have L5 := Lib.hid (bl_n L04.out hg); have O5 := Lib.hid (own_belowR O4.out (bl_n (Below.refl _ w4) hg)); clear hk hg hz; simp only [Act.put, List.setIfInBounds_toArray, List.set_cons_zero, List.set_cons_succ])
          | ((with_reducible show wpList _ _ _ (_ :: _) _ _); refine wpl_app_it rfl (.tmp 25) (.tmp 29) (by rfl) w.heap.size u7 l (by rfl) O5.out _ ⟨2, zKey, zPl, 0, (u : Int), s⟩ (by rfl) K5.out (by omega) L5.out.size ?_; intro v' w6 ho hg; have O6 := Lib.hid ho; have L6 := Lib.hid (L5.out.grown hg L5.out.size (fun k hk => (own_at O5.out k hk).1)); clear ho hg; simp only [Act.put, List.setIfInBounds_toArray, List.set_cons_zero, List.set_cons_succ]))
        go_roundg (gk - 1)
        case measure => omega
        case rel => exact ⟨u + 1, _, by congr 1, by omega, by omega, by omega, E1.out, E2.out, O6.out, L6.out⟩
    · have huI : ¬ (u : Int) < (n : Int) := by omega
      have he : u = n := by omega
      subst he
      go_wp2_with fail
      go_ret
      rw [← HL.out]
      exact ⟨_, rfl, O.out, L.out⟩
/-- Do, with what it leaves alone. -/
def DoT (w0 w : World) (si xi bx mi bs n : Nat) (E : ExM) (f : MpF) (M : SnM) (o : OpV) (e : Ending) (w' : World) : Prop :=
  ∃ r E' f' M', e = .returned (.int .i64 r) ∧ DoR n E f M o r E' f' M' ∧ E'.length ≤ E.length + 18 ∧ StO w0 w' si xi bx mi bs n E' f' M' ∧ Tch [bx, mi, bs] w w'
theorem do_t {w0 w : World} {si xi bx mi bs n : Nat} {E : ExM} {f : MpF} {M : SnM} (h : StO w0 w si xi bx mi bs n E f M) (o : OpV) (A : Option Addr) (c : Nat) (B : Option Addr) (d : Nat) (h0 : OpAt w o A c B d) (hA : Off o.news.length [bx, mi, bs] A) (hB : Off o.puts.length [bx, mi, bs] B) (hn : o.news.length ≤ 10000000) (hm : o.puts.length ≤ 10000000) (hE : E.length ≤ 10000000) (hk0 : 0 ≤ o.kind ∧ o.kind < 256) :
    Calls Tryz.prog 14 #[.pointer (some ⟨si, 0, none⟩), .agg (opC o A c B d).toArray] w (DoT w0 w si xi bx mi bs n E f M o) := by
  refine (do_any h.st o A c B d h0 hA hB hn hm hE h.inv.idsOk (by have := h.inv.len; omega) h.inv.refOk hk0).mono ?_
  rintro e w' ⟨r, E', f', M', rfl, hd, h1, h2⟩
  have hi := do_inv h.st.maps.high h.inv hd
  refine ⟨r, E', f', M', rfl, hd, hi.2, ⟨h1, hi.1, h.low.trans (h2.toBelow h.low.size (fun k hk => ?_)), h.lo⟩, h2⟩
  have := h.lo
  simp at hk
  omega
/-- An owned row's block is none of a state's. -/
theorem StO.noRow {w0 w : World} {si xi bx mi bs n : Nat} {E : ExM} {f : MpF} {M : SnM} (h : StO w0 w si xi bx mi bs n E f M) {base m sz : Nat} {e : TypeId} {v : Value} {xs : List Value} (ho : w.ownsRow base e sz v m xs) (he : e ≠ 123) : ∀ b, v.ownBlock = some b → b ∉ [bx, mi, bs] := by
  intro b hb hm
  obtain ⟨cs, hcs⟩ := own_obj ho hb
  simp at hm
  rcases hm with rfl | rfl | rfl
  · obtain ⟨es, c, hm⟩ := h.st.idx.map.obj
    rw [hm] at hcs
    cases hcs
  · exact own_blk ho h.st.maps.blk he hb
  · obtain ⟨es, c, hm⟩ := h.st.maps.map.obj
    rw [hm] at hcs
    cases hcs
theorem own_tchN {w w' : World} {base n sz : Nat} {e : TypeId} {v : Value} {xs : List Value} {T : List Nat} (h : w.ownsRow base e sz v n xs) (hb : Tch T w w') (hT : ∀ b, v.ownBlock = some b → b ∉ T) : w'.ownsRow base e sz v n xs := by
  refine ⟨h.1, h.2.imp id ?_⟩
  rintro ⟨g, cap, cur, e1, a1, a2, r⟩
  have h3 : Blk w g e cur := a2
  exact ⟨g, cap, cur, e1, a1, h3.tch hb (hT g (by rw [e1]; rfl)), r⟩
end Go.Proofs.YtgjjdfhoakailaaGreat
