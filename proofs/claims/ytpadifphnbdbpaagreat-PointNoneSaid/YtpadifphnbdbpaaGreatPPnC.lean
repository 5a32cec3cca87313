/-
  what this claim needs of: PnC, PnC2, PnC3, PnC4 (written by cut.py).
-/
import Derived.Test.YtpadifphnbdbpaaGreatPPnD
import Derived.Lib.SliceRun
import Derived.Defers
import Derived.Laws.Pointers
import Derived.Laws.LoneSync
namespace Go.Proofs.YtpadifphnbdbpaaGreat
open Go.RowKit Go.Maps
set_option linter.unusedVariables false
set_option linter.unusedSimpArgs false
section
variable {α β : Type} [DecidableEq α] {P : Program} {kt : TypeId} {kv : α → Value} {kl : α → Lit} {ve : β → Value} {b : Nat} {M : List (α × β)} {l : List Oper} {Q : Exit → Act → World → Prop} {S : Nat → World → Prop}
theorem qs_mlookD {o : Oper} {r : List (Oper × Option Nat)} {k m : Nat} {a : Act} {w : World} (hw : Region.wanted o (yielded l.toArray a.tmps) = true) (t : TypeId) (mm x : Operand) (ho : o.op = .lookup t mm x false) {e : TypeId} (K : Keyed P kt) (ht : P.underlying t = some (.map kt e))
    (hm : a.eval mm = .map (some b)) (X : α) (hx : a.eval x = kv X) {z : Value} (hz : ∀ u : World, (zeroValue e).run P u = .ok z u) (hS : ∀ j w, k ≤ j → j ≤ m → S j w → MapIs P kt kv kl ve w b M) (hinj : ∀ p ∈ M, kl p.1 = kl X → p.1 = X) (hkey : keyOf P kt (kv X) = some (kl X)) (v : Value) (hv : ((aget M X).map ve).getD z = v)
    (h : wpQs P l Q S r k (a.put o.dst v) w) : wpQs P l Q S ((o, some m) :: r) k a w :=
  ⟨v, .inl ⟨hw, fun w' ⟨j, h1, h2, h3⟩ => by
    have hrun := (hS j w' h1 h2 h3).look K ht (hz w') hinj hkey
    rw [hv] at hrun
    unfold execOp
    simp only [ho, hm, hx, Sem.run_bind, hrun, Result.andThen_ok, Sem.run_pure]⟩, h⟩
theorem qs_mlenD {o : Oper} {r : List (Oper × Option Nat)} {k m : Nat} {a : Act} {w : World} (hw : Region.wanted o (yielded l.toArray a.tmps) = true) (t : TypeId) (mm : Operand) (ho : o.op = .call { callee := .builtin .len, args := #[mm], argTypes := #[t] }) {e : TypeId} (ht : P.underlying t = some (.map kt e))
    (hm : a.eval mm = .map (some b)) (hS : ∀ j w, k ≤ j → j ≤ m → S j w → MapIs P kt kv kl ve w b M)
    (h : wpQs P l Q S r k (a.put o.dst (.int .i64 (M.length : Int))) w) : wpQs P l Q S ((o, some m) :: r) k a w :=
  ⟨_, .inl ⟨hw, fun w' ⟨j, h1, h2, h3⟩ => by
    have hrun := (hS j w' h1 h2 h3).len ht o.type
    unfold execOp
    simp [ho, resolve, invoke, builtin, hm, hrun, Result.andThen]⟩, h⟩
end
structure Ke where
  (A : Option Addr) (cap : Nat) (at_ : Int) (x : Sec)
def veK (e : Ke) : Value := .agg #[.slice e.A 512 e.cap, .int .i64 e.at_]
abbrev KM := List (Int × Ke)
def ccC (d kb : Nat) (most now h m : Int) : List Value := [.pointer (some ⟨d, 0, none⟩), .int .i64 most, .int .i64 now, .map (some kb), .int .i64 h, .int .i64 m]
/-- A cache over a disk that is up; the entries of the sectors sk may be stale. -/
structure CcW (w : World) (c kb d sb ob n : Nat) (K : KM) (S O : SM) (sk : Int → Prop) : Prop where
  blk : ∃ now h m, Blk w c 56 (ccC d kb 8 now h m).toArray
  map : MapIs Tryz.prog 3 kD lD veK w kb K
  dk : DkIs w d sb ob n S O
  rows : ∀ p ∈ K, BSrc w p.2.A 512 (secL p.2.x) ∧ (sk p.1 ∨ p.2.x = latD S O p.1)
  nes : kb ≠ sb ∧ kb ≠ ob
section
variable {w w' : World} {c kb d sb ob n : Nat} {K : KM} {S O : SM} {sk : Int → Prop}
theorem CcW.tch {T : List Nat} (h : CcW w c kb d sb ob n K S O sk) (hT : Tch T w w') (h0 : c ∉ T) (h1 : kb ∉ T) (h2 : d ∉ T) (h3 : sb ∉ T) (h4 : ob ∉ T) (hn : ∀ b cs, Blk w b 5 cs → b ∉ T) : CcW w' c kb d sb ob n K S O sk := by
  obtain ⟨now, hi, mi, hb⟩ := h.blk
  exact ⟨⟨now, hi, mi, hb.tch hT h0⟩, h.map.tch hT h1, h.dk.tch hT h2 h3 h4, fun p hp => ⟨(h.rows p hp).1.tch hT hn, (h.rows p hp).2⟩, h.nes⟩
theorem CcW.below (h : CcW w c kb d sb ob n K S O sk) (hb : Below w.heap.size w w') : CcW w' c kb d sb ob n K S O sk := h.tch (T := []) (Tch.below hb) (by simp) (by simp) (by simp) (by simp) (by simp) (by simp)
theorem CcW.drew (h : CcW w c kb d sb ob n K S O sk) : CcW w.drew c kb d sb ob n K S O sk := h.below (Below.refl _ _).drew
theorem CcW.c0 (h : CcW w c kb d sb ob n K S O sk) : w.cell? ⟨c, 0, none⟩ = some (.pointer (some ⟨d, 0, none⟩)) := by obtain ⟨now, hi, mi, hb⟩ := h.blk; exact hb.cell rfl
theorem CcW.c1 (h : CcW w c kb d sb ob n K S O sk) : w.cell? ⟨c, 1, none⟩ = some (.int .i64 8) := by obtain ⟨now, hi, mi, hb⟩ := h.blk; exact hb.cell rfl
theorem CcW.c3 (h : CcW w c kb d sb ob n K S O sk) : w.cell? ⟨c, 3, none⟩ = some (.map (some kb)) := by obtain ⟨now, hi, mi, hb⟩ := h.blk; exact hb.cell rfl
theorem CcW.turn {T : List Nat} (h : CcW w c kb d sb ob n K S O sk) (hT : Tch T w w') (hs : ∀ k ∈ T, k = c) (hc : ∃ now hi mi, Blk w' c 56 (ccC d kb 8 now hi mi).toArray) : CcW w' c kb d sb ob n K S O sk := by
  obtain ⟨now, hi, mi, hb⟩ := h.blk
  have n1 : kb ∉ T := fun hk => by have := hs _ hk; exact blk_ne_mapD h.map hb this.symm
  have n2 : sb ∉ T := fun hk => by have := hs _ hk; exact blk_ne_mapD h.dk.safe hb this.symm
  have n3 : ob ∉ T := fun hk => by have := hs _ hk; exact blk_ne_mapD h.dk.opn hb this.symm
  have n4 : d ∉ T := fun hk => by
    have e := hs _ hk
    have hd := h.dk.blk
    rw [e] at hd
    unfold Blk at hb hd
    rw [hb] at hd
    injection hd with hd
    injection hd with _ hd
    revert hd
    decide
  refine ⟨hc, h.map.tch hT n1, h.dk.tch hT n4 n2 n3, fun p hp => ⟨(h.rows p hp).1.tch hT (fun b cs hk hm => ?_), (h.rows p hp).2⟩, h.nes⟩
  have e := hs _ hm
  rw [e] at hk
  unfold Blk at hb hk
  rw [hb] at hk
  injection hk with hk
  injection hk with _ hk
  revert hk
  decide
set_option maxRecDepth 100000 in
theorem cc_known (h : CcW w c kb d sb ob n K S O sk) : Calls Tryz.prog 47 #[.pointer (some ⟨c, 0, none⟩)] w fun e w' => e = .returned (.bool true) ∧ w = w' := by
  have c1 := h.c1
  clear h
  go_enter Tryz.func47, Tryz.ntmps47
  go_wp2
  go_ret
  exact ⟨rfl, rfl⟩
set_option maxRecDepth 100000 in
theorem cc_sectors (h : CcW w c kb d sb ob n K S O sk) : Calls Tryz.prog 20 #[.pointer (some ⟨c, 0, none⟩)] w fun e w' => e = .returned (.int .i64 (n : Int)) ∧ w = w' := by
  have H := Lib.hid h
  have c0 := h.c0
  clear h
  go_enter Tryz.func20, Tryz.ntmps20
  go_wp2_with (first
    | (go_at_call 47; refine (cc_known H.out).mono ?_; rintro e w1 ⟨rfl, rfl⟩)
    | (go_at_call 17; refine (dk_sectors H.out.dk).mono ?_; rintro e w1 ⟨rfl, rfl⟩))
  go_ret
  exact ⟨rfl, rfl⟩
def ClonePost (m : Nat) (ys : List Value) (w : World) (e : Ending) (w' : World) : Prop := ∃ v, e = .returned v ∧ w'.ownsRow w.heap.size 5 1 v m ys ∧ Below w.heap.size w w'
set_option maxRecDepth 100000 in
theorem bclone_any (a : Addr) (m cap : Nat) {ys : List Value} (hs : Src w 1 (.slice (some a) m cap) m ys) (h1 : ∀ y ∈ ys, y.oneCell' = true) (hm : m ≤ 1000000) : Calls Tryz.prog 145 #[.slice (some a) m cap] w (ClonePost m ys w) := by
  have H := Lib.hid hs
  have H1 := Lib.hid h1
  clear hs h1
  have hn := fun W : World => Lib.run_eql_slice_nil (P := Tryz.prog) W 78 5 (some a) m cap 0 0 Tryz.underlying78
  go_enter Tryz.func145, Tryz.ntmps145
  go_wp2_with (first
    | (refine app_src rfl (.tmp 5) (.tmp 6) 78 (by rfl) w.heap.size 5 _ 1 1 Tryz.underlying78 infoByte rfl (by omega) v5 0 [] (by rfl) O5.out _ m ys (by rfl) (H.out.below L5.out) H1.out (by omega) (by omega) L5.out.size ?_; intro v6 w6 ho hg _; have O6 := Lib.hid ho; have L6 := Lib.hid (L5.out.grown hg L5.out.size (fun k hk => (own_atD O5.out k hk).1)); clear ho hg; simp only [Act.put, List.setIfInBounds_toArray, List.set_cons_zero, List.set_cons_succ])
    | (refine wpl_lit0D rfl 78 5 (by rfl) Tryz.underlying78 infoByte w.heap.size (Nat.le_refl _) ?_; intro v5 w5 ho hg; have O5 := Lib.hid ho; have L5 := Lib.hid (bl_n (Below.refl _ _) hg); clear ho hg; simp only [Act.put, List.setIfInBounds_toArray, List.set_cons_zero, List.set_cons_succ]))
  go_ret
  exact ⟨v6, rfl, by simpa using O6.out, L6.out⟩
end
end Go.Proofs.YtpadifphnbdbpaaGreat
namespace Go.Proofs.YtpadifphnbdbpaaGreat
open Go.RowKit Go.Maps
set_option linter.unusedVariables false
set_option linter.unusedSimpArgs false
section
variable {w w' : World} {c kb d sb ob n : Nat} {K : KM} {S O : SM} {sk : Int → Prop} {g : Nat}
theorem built_ke (A : Option Addr) (m cap : Nat) (t : Int) : Tryz.prog.built 253 [(0, .slice A m cap), (1, .int .i64 t)] = some #[.slice A m cap, .int .i64 t] := by kernel_rfl
theorem field_ke (A : Option Addr) (m cap : Nat) (t : Int) (W : World) : (Instr.field 253 (.agg #[.slice A m cap, .int .i64 t]) 1).run Tryz.prog W = .ok (.int .i64 t) W := by kernel_rfl
theorem ke_info (e : Ke) : (Tryz.prog.info? 253).map (·.size) = some [Value.slice e.A 512 e.cap, .int .i64 e.at_].length := by show _ = some 2; kernel_rfl
theorem zero_ke (u : World) : (zeroValue 253).run Tryz.prog u = .ok (.agg #[.slice none 0 0, .int .i64 0]) u := Tryz.zeroValue253 u
theorem look_ke (o : Option Ke) : ∃ (A : Option Addr) (m cap : Nat) (t : Int), (o.map veK).getD (.agg #[.slice none 0 0, .int .i64 0]) = .agg #[.slice A m cap, .int .i64 t] := by
  cases o with
  | none => exact ⟨none, 0, 0, 0, rfl⟩
  | some e => exact ⟨e.A, 512, e.cap, e.at_, rfl⟩
/-- While the eldest is looked for: nothing turns but what is new. -/
structure KeI (w1 : World) (kb r : Nat) (K todo : KM) (el : Int) (wr : World) : Prop where
  rng : RangeIs Tryz.prog 3 kD lD veK wr kb r K todo
  low : Below w1.heap.size w1 wr
  key : keyOf Tryz.prog 3 (kD el) = some (lD el)
def KeL (w1 : World) (kb r : Nat) (K : KM) (k : Nat) (ev : Value) (wr : World) : Prop := ∃ el todo, k = todo.length ∧ ev = .int .i64 el ∧ KeI w1 kb r K todo el wr
theorem blk_ne_tyD {w : World} {g g' : Nat} {t t' : TypeId} {cs cs' : Array Value} (h : Blk w g t cs) (h' : Blk w g' t' cs') (ht : t ≠ t') : g ≠ g' := by
  rintro rfl
  unfold Blk at h h'
  rw [h] at h'
  injection h' with h'
  injection h' with _ h'
  exact ht h'
theorem CcW.newMap {K' : KM} {sk' : Int → Prop} (h : CcW w c kb d sb ob n K S O sk) (hT : Tch [kb] w w') (hm : MapIs Tryz.prog 3 kD lD veK w' kb K') (hr : ∀ p ∈ K', BSrc w' p.2.A 512 (secL p.2.x) ∧ (sk' p.1 ∨ p.2.x = latD S O p.1)) : CcW w' c kb d sb ob n K' S O sk' := by
  obtain ⟨now, hi, mi, hb⟩ := h.blk
  exact ⟨⟨now, hi, mi, hb.tch hT (by have := blk_ne_mapD h.map hb; simpa using this)⟩, hm, h.dk.tch hT (by have := blk_ne_mapD h.map h.dk.blk; simpa using this) (by have := h.nes.1; simpa using this.symm) (by have := h.nes.2; simpa using this.symm), hr, h.nes⟩
theorem bsrc_map {A : Option Addr} {m : Nat} {ys : List Value} (hs : BSrc w A m ys) (h : MapIs Tryz.prog 3 kD lD veK w kb K) (hT : Tch [kb] w w') : BSrc w' A m ys :=
  hs.tch hT (fun b cs hb => by have := blk_ne_mapD h hb; simpa using this)
theorem CcW.put {i : Int} {e : Ke} (h : CcW w c kb d sb ob n K S O (fun k => k = i)) (hm : MapIs Tryz.prog 3 kD lD veK w' kb (aput K i e)) (hT : Tch [kb] w w') (he : BSrc w e.A 512 (secL e.x)) (hx : e.x = latD S O i) : CcW w' c kb d sb ob n (aput K i e) S O (fun _ => False) := by
  refine h.newMap hT hm (fun p hp => ?_)
  rcases List.mem_cons.1 hp with rfl | hp
  · exact ⟨bsrc_map he h.map hT, .inr hx⟩
  · obtain ⟨hp1, hp2⟩ := List.mem_filter.1 hp
    have hne : p.1 ≠ i := by simpa using hp2
    obtain ⟨h1, h2⟩ := h.rows p hp1
    exact ⟨bsrc_map h1 h.map hT, .inr (h2.resolve_left hne)⟩
theorem CcW.del {i : Int} (h : CcW w c kb d sb ob n K S O sk) (hm : MapIs Tryz.prog 3 kD lD veK w' kb (adel K i)) (hT : Tch [kb] w w') : CcW w' c kb d sb ob n (adel K i) S O sk :=
  h.newMap hT hm (fun p hp => by
    obtain ⟨hp1, _⟩ := List.mem_filter.1 hp
    obtain ⟨h1, h2⟩ := h.rows p hp1
    exact ⟨bsrc_map h1 h.map hT, h2⟩)
theorem tch_g {b : Nat} (hg : w.grownBy w' (some b)) : Tch [b] w w' := Tch.grown hg (fun k hk => by injection hk with hk; subst hk; exact .inl (by simp))
theorem kput_len (M : KM) (x : Int) (v : Ke) : (aput M x v).length ≤ M.length + 1 := by
  unfold aput
  rw [List.length_cons]
  have := adel_le M x
  omega
/-- No row of a cache's lies in block g. -/
def Avoid (K : KM) (g : Nat) : Prop := ∀ p ∈ K, ∀ a : Addr, p.2.A = some a → a.block ≠ g
theorem Avoid.del (h : Avoid K g) (x : Int) : Avoid (adel K x) g := fun p hp => h p (List.mem_filter.1 hp).1
theorem Avoid.put (h : Avoid K g) (x : Int) (e : Ke) (he : ∀ a : Addr, e.A = some a → a.block ≠ g) : Avoid (aput K x e) g := by
  intro p hp
  rcases List.mem_cons.1 hp with rfl | hp
  · exact he
  · exact h p (List.mem_filter.1 hp).1
theorem own_addr {w : World} {base m sz cap : Nat} {e : TypeId} {A : Option Addr} {ys : List Value} (ho : w.ownsRow base e sz (.slice A m cap) m ys) : ∀ a : Addr, A = some a → base ≤ a.block ∧ a.block < w.heap.size := by
  intro a ha
  subst ha
  exact own_atD ho a.block rfl
def KeepPost (w : World) (c kb d sb ob n : Nat) (K : KM) (S O : SM) (e : Ending) (w' : World) : Prop := ∃ K', e = .returned (.tuple #[]) ∧ CcW w' c kb d sb ob n K' S O (fun _ => False) ∧ K'.length ≤ K.length + 1 ∧ Tch [c, kb] w w' ∧ ∀ g, g < w.heap.size → Avoid K g → Avoid K' g
set_option maxRecDepth 100000 in
set_option maxHeartbeats 1000000 in
theorem cc_keep {i : Int} (h : CcW w c kb d sb ob n K S O (fun k => k = i)) (hi : -9223372036854775808 ≤ i ∧ i ≤ 9223372036854775807) {A : Option Addr} {cap : Nat} (hs : BSrc w A 512 (secL (latD S O i))) (hK : K.length ≤ 1000000) :
    Calls Tryz.prog 117 #[.pointer (some ⟨c, 0, none⟩), .int .i64 i, .slice A 512 cap] w (KeepPost w c kb d sb ob n K S O) := by
  obtain ⟨now, hh, mm, hb⟩ := h.blk
  obtain ⟨b0, off0, rfl, _, _⟩ := hs.rng
  have H := Lib.hid h
  have HI := Lib.hid hi
  have HS := Lib.hid hs
  have HK := Lib.hid hK
  have HB := Lib.hid hb
  have c2 : w.cell? ⟨c, 2, none⟩ = some (.int .i64 now) := hb.cell rfl
  have f2 := hb.free 2
  obtain ⟨n1, hn1⟩ : ∃ n1, IntKind.i64.wrap (now + 1) = n1 := ⟨_, rfl⟩
  clear h hi hs hK hb
  go_enter Tryz.func117, Tryz.ntmps117
  go_upto_region 1 with fail
  obtain ⟨wn, hwn⟩ : ∃ v, v = w.setCell ⟨c, 2, none⟩ (.int .i64 n1) := ⟨_, rfl⟩
  have BN := Lib.hid (show Blk wn c 56 (ccC d kb 8 n1 hh mm).toArray by rw [hwn]; exact HB.out.put 2 _)
  have TN := Lib.hid (show Tch [c] w wn by rw [hwn]; exact tch_g (grown_put w _ _))
  have CN := Lib.hid (H.out.turn TN.out (by simp) ⟨n1, hh, mm, BN.out⟩)
  have SN := Lib.hid (HS.out.tch TN.out (fun b cs hk => by have := blk_ne_tyD hk HB.out (by decide); simpa using this))
  rw [← hwn]
  clear hwn hn1 c2 f2 HS
  refine wp_region_qs (fun _ w' => w'.cell? ⟨c, 3, none⟩ = some (.map (some kb)) ∧ w'.cell? ⟨c, 2, none⟩ = some (.int .i64 n1)) [(0, some 1), (1, some 1), (2, some 1), (3, some 1), (4, some 1), (5, some 0), (7, some 1), (8, some 1), (9, some 1), (10, some 1), (6, none), (11, some 1), (12, none)] (by kernel_rfl) (by kernel_rfl) (by kernel_rfl) (by kernel_rfl) (by kernel_rfl) (fun _ _ _ _ _ h => h) ⟨BN.out.drew.cell rfl, BN.out.drew.cell rfl⟩ ?_
  simp only [List.map_cons, List.map_nil, List.getD_cons_succ, List.getD_cons_zero]
  (repeat (first | (refine qs_now (v := ?_) (by rfl) ?_ ?_; rotate_left 1; (· (intro w' hS; go_simp; (try (simp only [↓IntWalk.iteOmega]; go_simp)); (try simp (disch := omega) only [IntWalk.i64_in]); try with_reducible rfl)); simp only [Act.put, List.setIfInBounds_toArray, List.set_cons_zero, List.set_cons_succ]) | (refine qs_run (v := ?_) (by rfl) ?_ ?_; rotate_left 1; (· (intro j w' hS; go_simp; (try (simp only [↓IntWalk.iteOmega]; go_simp)); (try simp (disch := omega) only [IntWalk.i64_in]); try with_reducible rfl)); simp only [Act.put, List.setIfInBounds_toArray, List.set_cons_zero, List.set_cons_succ]) | (refine qs_mid (v := ?_) (by rfl) ?_ ?_; rotate_left 1; (· (intro j w' hj1 hj2 hS; go_simp; (try (simp only [↓IntWalk.iteOmega]; go_simp)); (try simp (disch := omega) only [IntWalk.i64_in]); try with_reducible rfl)); simp only [Act.put, List.setIfInBounds_toArray, List.set_cons_zero, List.set_cons_succ]) | (refine qs_skip (by rfl) ?_; simp only [Act.put, List.setIfInBounds_toArray, List.set_cons_zero, List.set_cons_succ])))
  refine qs_act ?_
  go_wp2_with (go_at_call 145; refine (bclone_any ⟨b0, off0, none⟩ 512 cap (SN.out.below (Below.refl _ wn).drew).src (secL_one _) (by omega)).mono ?_; rintro e w1 ⟨v1, rfl, ho, hb⟩; obtain ⟨A1, cap1, rfl, _⟩ := own_slice ho; have O1 := Lib.hid ho; have L1 := Lib.hid (below_chain (Below.refl _ wn).drew hb); have hbk := built_ke A1 512 cap1 n1; clear ho hb)
  have C1 := Lib.hid (CN.out.below L1.out)
  have B1 := Lib.hid (BN.out.below L1.out BN.out.lt)
  refine ⟨⟨B1.out.cell rfl, B1.out.cell rfl⟩, ?_⟩
  (repeat (first | (refine qs_now (v := ?_) (by rfl) ?_ ?_; rotate_left 1; (· (intro w' hS; go_simp; (try (simp only [↓IntWalk.iteOmega]; go_simp)); (try simp (disch := omega) only [IntWalk.i64_in]); try with_reducible rfl)); simp only [Act.put, List.setIfInBounds_toArray, List.set_cons_zero, List.set_cons_succ]) | (refine qs_run (v := ?_) (by rfl) ?_ ?_; rotate_left 1; (· (intro j w' hS; go_simp; (try (simp only [↓IntWalk.iteOmega]; go_simp)); (try simp (disch := omega) only [IntWalk.i64_in]); try with_reducible rfl)); simp only [Act.put, List.setIfInBounds_toArray, List.set_cons_zero, List.set_cons_succ]) | (refine qs_mid (v := ?_) (by rfl) ?_ ?_; rotate_left 1; (· (intro j w' hj1 hj2 hS; go_simp; (try (simp only [↓IntWalk.iteOmega]; go_simp)); (try simp (disch := omega) only [IntWalk.i64_in]); try with_reducible rfl)); simp only [Act.put, List.setIfInBounds_toArray, List.set_cons_zero, List.set_cons_succ]) | (refine qs_skip (by rfl) ?_; simp only [Act.put, List.setIfInBounds_toArray, List.set_cons_zero, List.set_cons_succ])))
  refine qs_act ?_
  go_wp2_with (refine wpl_mput rfl 49 (.tmp 19) (.tmp 20) (.tmp 27) (by rfl) keyed_int Tryz.underlying49 C1.out.map (by have := HK.out; unfold maxLen; omega) (by rfl) i (by rfl) (⟨A1, cap1, n1, latD S O i⟩ : Ke) (by rfl) (lD_inj _) (key_D HI.out) ?_; intro w2 hm hg; have T2 := Lib.hid (tch_g hg); have C2 := Lib.hid (C1.out.put hm T2.out (BSrc.of_own O1.out (by omega)) rfl); clear hm hg; simp only [Act.put, List.setIfInBounds_toArray, List.set_cons_zero, List.set_cons_succ])
  have B2 := Lib.hid (B1.out.tch T2.out (by have := blk_ne_mapD C1.out.map B1.out; simpa using this))
  have TT := Lib.hid (show Tch [c, kb] w w2 from ((TN.out.mono (fun k hk => by simp at hk; simp [hk])).trans (Tch.below L1.out)).trans (T2.out.mono (fun k hk => by simp at hk; simp [hk])))
  have HL := Lib.hid (kput_len K i (⟨A1, cap1, n1, latD S O i⟩ : Ke))
  have AV := Lib.hid (show ∀ g, g < w.heap.size → Avoid K g → Avoid (aput K i (⟨A1, cap1, n1, latD S O i⟩ : Ke)) g from fun g hg hK => hK.put _ _ (fun a ha => by have := (own_addr O1.out a ha).1; have h2 : w.heap.size ≤ wn.heap.size := TN.out.size; have h3 : wn.drew.heap.size = wn.heap.size := rfl; omega))
  refine ⟨⟨B2.out.cell rfl, B2.out.cell rfl⟩, ?_⟩
  (repeat (first | (refine qs_now (v := ?_) (by rfl) ?_ ?_; rotate_left 1; (· (intro w' hS; go_simp; (try (simp only [↓IntWalk.iteOmega]; go_simp)); (try simp (disch := omega) only [IntWalk.i64_in]); try with_reducible rfl)); simp only [Act.put, List.setIfInBounds_toArray, List.set_cons_zero, List.set_cons_succ]) | (refine qs_run (v := ?_) (by rfl) ?_ ?_; rotate_left 1; (· (intro j w' hS; go_simp; (try (simp only [↓IntWalk.iteOmega]; go_simp)); (try simp (disch := omega) only [IntWalk.i64_in]); try with_reducible rfl)); simp only [Act.put, List.setIfInBounds_toArray, List.set_cons_zero, List.set_cons_succ]) | (refine qs_mid (v := ?_) (by rfl) ?_ ?_; rotate_left 1; (· (intro j w' hj1 hj2 hS; go_simp; (try (simp only [↓IntWalk.iteOmega]; go_simp)); (try simp (disch := omega) only [IntWalk.i64_in]); try with_reducible rfl)); simp only [Act.put, List.setIfInBounds_toArray, List.set_cons_zero, List.set_cons_succ]) | (refine qs_skip (by rfl) ?_; simp only [Act.put, List.setIfInBounds_toArray, List.set_cons_zero, List.set_cons_succ])))
  refine qs_nil ?_
  generalize aput K i (⟨A1, cap1, n1, latD S O i⟩ : Ke) = K2 at *
  go_upto_region 2 with fail
  clear hbk O1 C1 B1 L1 CN BN SN T2
  by_cases hle : K2.length ≤ 8
  · have hlI : (K2.length : Int) ≤ 8 := by omega
    have hlb : decide ((K2.length : Int) ≤ 8) = true := decide_eq_true hlI
    refine wp_region_qs (fun _ w' => w'.cell? ⟨c, 3, none⟩ = some (.map (some kb)) ∧ w'.cell? ⟨c, 1, none⟩ = some (.int .i64 8) ∧ MapIs Tryz.prog 3 kD lD veK w' kb K2) [(0, some 0), (1, some 0), (2, some 0), (3, some 0), (4, some 0), (5, some 0), (6, some 0), (7, some 0), (8, some 0), (9, some 0)] (by kernel_rfl) (by kernel_rfl) (by kernel_rfl) (by kernel_rfl) (by kernel_rfl) (fun _ _ _ _ _ h => h) ⟨C2.out.drew.c3, C2.out.drew.c1, C2.out.drew.map⟩ ?_
    simp only [List.map_cons, List.map_nil, List.getD_cons_succ, List.getD_cons_zero]
    (repeat (first | ((refine qs_mlenD (by rfl) 49 (.tmp 31) (by rfl) Tryz.underlying49 (by rfl) (fun j w' _ _ h => h.2.2) ?_); simp only [Act.put, List.setIfInBounds_toArray, List.set_cons_zero, List.set_cons_succ]) | (refine qs_now (v := ?_) (by rfl) ?_ ?_; rotate_left 1; (· (intro w' hS; go_simp; (try (simp only [↓IntWalk.iteOmega]; go_simp)); (try simp (disch := omega) only [IntWalk.i64_in]); try with_reducible rfl)); simp only [Act.put, List.setIfInBounds_toArray, List.set_cons_zero, List.set_cons_succ]) | (refine qs_run (v := ?_) (by rfl) ?_ ?_; rotate_left 1; (· (intro j w' hS; go_simp; (try (simp only [↓IntWalk.iteOmega]; go_simp)); (try simp (disch := omega) only [IntWalk.i64_in]); try with_reducible rfl)); simp only [Act.put, List.setIfInBounds_toArray, List.set_cons_zero, List.set_cons_succ]) | (refine qs_mid (v := ?_) (by rfl) ?_ ?_; rotate_left 1; (· (intro j w' hj1 hj2 hS; go_simp; (try (simp only [↓IntWalk.iteOmega]; go_simp)); (try simp (disch := omega) only [IntWalk.i64_in]); try with_reducible rfl)); simp only [Act.put, List.setIfInBounds_toArray, List.set_cons_zero, List.set_cons_succ]) | (refine qs_skip (by rfl) ?_; simp only [Act.put, List.setIfInBounds_toArray, List.set_cons_zero, List.set_cons_succ])))
    refine qs_nil ?_
    go_wp2_with fail
    go_end0
    exact ⟨K2, rfl, C2.out.drew, HL.out, TT.out.trans (Tch.below (Below.refl _ _).drew), AV.out⟩
  · have hlI : ¬ (K2.length : Int) ≤ 8 := by omega
    have hlb : decide ((K2.length : Int) ≤ 8) = false := decide_eq_false hlI
    refine wp_region_qs (fun _ w' => w'.cell? ⟨c, 3, none⟩ = some (.map (some kb)) ∧ w'.cell? ⟨c, 1, none⟩ = some (.int .i64 8) ∧ MapIs Tryz.prog 3 kD lD veK w' kb K2) [(0, some 0), (1, some 0), (2, some 0), (3, some 0), (4, some 0), (5, some 0), (6, some 0), (7, some 0), (8, some 0), (9, some 0)] (by kernel_rfl) (by kernel_rfl) (by kernel_rfl) (by kernel_rfl) (by kernel_rfl) (fun _ _ _ _ _ h => h) ⟨C2.out.drew.c3, C2.out.drew.c1, C2.out.drew.map⟩ ?_
    simp only [List.map_cons, List.map_nil, List.getD_cons_succ, List.getD_cons_zero]
    (repeat (first | ((refine qs_mlenD (by rfl) 49 (.tmp 31) (by rfl) Tryz.underlying49 (by rfl) (fun j w' _ _ h => h.2.2) ?_); simp only [Act.put, List.setIfInBounds_toArray, List.set_cons_zero, List.set_cons_succ]) | (refine qs_now (v := ?_) (by rfl) ?_ ?_; rotate_left 1; (· (intro w' hS; go_simp; (try (simp only [↓IntWalk.iteOmega]; go_simp)); (try simp (disch := omega) only [IntWalk.i64_in]); try with_reducible rfl)); simp only [Act.put, List.setIfInBounds_toArray, List.set_cons_zero, List.set_cons_succ]) | (refine qs_run (v := ?_) (by rfl) ?_ ?_; rotate_left 1; (· (intro j w' hS; go_simp; (try (simp only [↓IntWalk.iteOmega]; go_simp)); (try simp (disch := omega) only [IntWalk.i64_in]); try with_reducible rfl)); simp only [Act.put, List.setIfInBounds_toArray, List.set_cons_zero, List.set_cons_succ]) | (refine qs_mid (v := ?_) (by rfl) ?_ ?_; rotate_left 1; (· (intro j w' hj1 hj2 hS; go_simp; (try (simp only [↓IntWalk.iteOmega]; go_simp)); (try simp (disch := omega) only [IntWalk.i64_in]); try with_reducible rfl)); simp only [Act.put, List.setIfInBounds_toArray, List.set_cons_zero, List.set_cons_succ]) | (refine qs_skip (by rfl) ?_; simp only [Act.put, List.setIfInBounds_toArray, List.set_cons_zero, List.set_cons_succ])))
    refine qs_nil ?_
    obtain ⟨w3, hw3⟩ : ∃ v, v = w2.drew := ⟨_, rfl⟩
    have C3 := Lib.hid (show CcW w3 c kb d sb ob n K2 S O (fun _ => False) by rw [hw3]; exact C2.out.drew)
    have T3 := Lib.hid (show Tch [c, kb] w w3 by rw [hw3]; exact TT.out.trans (Tch.below (Below.refl _ _).drew))
    rw [← hw3]
    have c3 := C3.out.c3
    clear hw3 C2 TT B2
    go_upto_region 5 with (refine wpl_mrange rfl 49 (.tmp 42) (by rfl) keyed_int Tryz.underlying49 C3.out.map (by rfl) ?_; intro w4 hr hg hz; have R4 := Lib.hid hr; have L4 := Lib.hid (bl_n (Below.refl w3.heap.size w3) hg); clear hr hg hz; simp only [Act.put, List.setIfInBounds_toArray, List.set_cons_zero, List.set_cons_succ])
    obtain ⟨r, hr⟩ : ∃ r, r = w3.heap.size := ⟨_, rfl⟩
    have HRb := Lib.hid (show w3.heap.size ≤ r by omega)
    rw [← hr] at R4
    rw [← hr]
    clear hr hlb hle hlI c3
    go_loopg [6] K2.length (fun k ev wr => KeL w3 kb r K2 k ev wr)
    case atStart => exact ⟨i, K2, rfl, rfl, ⟨R4.out, L4.out, key_D HI.out⟩⟩
    case round =>
      obtain ⟨el, todo, hk, rfl, hX⟩ := hrel
      have X := Lib.hid hX
      have HKt := Lib.hid hk
      clear hX hk R4 L4
      have CX := Lib.hid (C3.out.below X.out.low)
      go_wp2_with (refine wpl_mnext rfl (.tmp 43) (by rfl) keyed_int X.out.rng (by rfl) lD_inj2 ?_ ?_)
      · intro htd
        have c3 := CX.out.c3
        clear htd
        go_wp2_with (refine wpl_mdel rfl 49 (.tmp 63) (.tmp 64) (by rfl) keyed_int Tryz.underlying49 CX.out.map (by rfl) el (by rfl) (lD_inj _) X.out.key ?_; intro w5 hm hg; have T5 := Lib.hid (tch_g hg); have C5 := Lib.hid (CX.out.del hm T5.out); clear hm hg; simp only [Act.put, List.setIfInBounds_toArray, List.set_cons_zero, List.set_cons_succ])
        go_end0
        exact ⟨adel K2 el, rfl, C5.out, by have := HL.out; have := adel_le K2 el; omega, (T3.out.trans (Tch.below X.out.low)).trans (T5.out.mono (fun k hk => by simp at hk; simp [hk])), fun g hg hK => (AV.out g hg hK).del _⟩
      · intro i2 e2 todo' w1' hperm hR hg hsz hen
        have R1 := Lib.hid hR
        have L1 := Lib.hid (show Below w3.heap.size w3 w1' from X.out.low.grown hg X.out.low.size (fun k hk => by injection hk with hk; subst hk; exact HRb.out))
        have HKp := Lib.hid (show keyOf Tryz.prog 3 (kD i2) = some (lD i2) by
          have h1 := X.out.rng.owns.keys
          obtain ⟨dn, hd⟩ := X.out.rng.sub
          exact h1 (i2, e2) (hd.mem_iff.2 (List.mem_append_right _ (hperm.mem_iff.2 (List.mem_cons_self ..)))))
        have HPl := Lib.hid (show gk = todo'.length + 1 by rw [HKt.out, hperm.length_eq, List.length_cons])
        clear hperm hR hg hsz
        go_upto_region 7 with (first
          | (refine wpl_over rfl 253 (.tmp 8) (.tmp 48) (by rfl) w1'.heap.size [Value.slice e2.A 512 e2.cap, .int .i64 e2.at_] (by rfl) (by rfl) _ _ KA.out (ke_info _) (by rw [CA.out]; rfl) (by simp [Value.oneCell']) ?_; intro wC hk hg hz; have KC := Lib.hid hk; have LC := Lib.hid (bl_g LA.out hg (Nat.le_refl _)); clear hk hg hz; simp only [Act.put, List.setIfInBounds_toArray, List.set_cons_zero, List.set_cons_succ])
          | (refine wpl_alloc rfl 253 (by rfl) Tryz.zeroValue253 2 (by rfl) ?_; intro wA csA hk hc hg hz; have KA := Lib.hid hk; have CA := Lib.hid hc; have LA := Lib.hid (bl_n (Below.refl w1'.heap.size w1') hg); clear hk hc hg hz; simp only [Act.put, List.setIfInBounds_toArray, List.set_cons_zero, List.set_cons_succ]))
        have LD := Lib.hid (below_chain L1.out LC.out)
        have CD := Lib.hid (C3.out.below LD.out)
        have RD := Lib.hid (R1.out.tch (T := []) (Tch.below LC.out) (by simp) (by simp))
        obtain ⟨A6, m6, cap6, t6, hlk⟩ := look_ke (aget K2 el)
        have HLk := Lib.hid hlk
        have hfk := field_ke A6 m6 cap6 t6
        clear hlk hen KA CA LA
        refine wp_region_qs (fun _ w' => w'.cell? ⟨c, 3, none⟩ = some (.map (some kb)) ∧ w'.cell? ⟨w1'.heap.size, 1, none⟩ = some (.int .i64 e2.at_) ∧ MapIs Tryz.prog 3 kD lD veK w' kb K2) [(0, some 0), (1, some 0), (2, some 0), (3, some 0), (4, some 0), (5, some 0), (6, some 0), (7, some 0), (8, some 0), (9, some 0)] (by kernel_rfl) (by kernel_rfl) (by kernel_rfl) (by kernel_rfl) (by kernel_rfl) (fun _ _ _ _ _ h => h) ⟨CD.out.drew.c3, KC.out.drew.cell rfl, CD.out.drew.map⟩ ?_
        simp only [List.map_cons, List.map_nil, List.getD_cons_succ, List.getD_cons_zero]
        (repeat (first | ((refine qs_mlookD (by rfl) 49 (.tmp 54) (.tmp 55) (by rfl) keyed_int Tryz.underlying49 (by rfl) el (by rfl) zero_ke (fun j w' _ _ h => h.2.2) (lD_inj _) X.out.key _ HLk.out ?_); simp only [Act.put, List.setIfInBounds_toArray, List.set_cons_zero, List.set_cons_succ]) | (refine qs_now (v := ?_) (by rfl) ?_ ?_; rotate_left 1; (· (intro w' hS; go_simp; (try (simp only [↓IntWalk.iteOmega]; go_simp)); (try simp (disch := omega) only [IntWalk.i64_in]); try with_reducible rfl)); simp only [Act.put, List.setIfInBounds_toArray, List.set_cons_zero, List.set_cons_succ]) | (refine qs_run (v := ?_) (by rfl) ?_ ?_; rotate_left 1; (· (intro j w' hS; go_simp; (try (simp only [↓IntWalk.iteOmega]; go_simp)); (try simp (disch := omega) only [IntWalk.i64_in]); try with_reducible rfl)); simp only [Act.put, List.setIfInBounds_toArray, List.set_cons_zero, List.set_cons_succ]) | (refine qs_mid (v := ?_) (by rfl) ?_ ?_; rotate_left 1; (· (intro j w' hj1 hj2 hS; go_simp; (try (simp only [↓IntWalk.iteOmega]; go_simp)); (try simp (disch := omega) only [IntWalk.i64_in]); try with_reducible rfl)); simp only [Act.put, List.setIfInBounds_toArray, List.set_cons_zero, List.set_cons_succ]) | (refine qs_skip (by rfl) ?_; simp only [Act.put, List.setIfInBounds_toArray, List.set_cons_zero, List.set_cons_succ])))
        refine qs_nil ?_
        by_cases hlt : e2.at_ < t6
        · go_wp2_with fail
          go_roundg (gk - 1)
          case measure => have := HPl.out; omega
          case rel => exact ⟨i2, todo', by have := HPl.out; omega, rfl, ⟨RD.out.tch (T := []) (Tch.below (Below.refl _ wC).drew) (by simp) (by simp), LD.out.drew, HKp.out⟩⟩
        · go_wp2_with fail
          go_roundg (gk - 1)
          case measure => have := HPl.out; omega
          case rel => exact ⟨el, todo', by have := HPl.out; omega, rfl, ⟨RD.out.tch (T := []) (Tch.below (Below.refl _ wC).drew) (by simp) (by simp), LD.out.drew, X.out.key⟩⟩
end
end Go.Proofs.YtpadifphnbdbpaaGreat
namespace Go.Proofs.YtpadifphnbdbpaaGreat
open Go.RowKit Go.Maps
set_option linter.unusedVariables false
set_option linter.unusedSimpArgs false
section
variable {w w' : World} {c kb d sb ob n : Nat} {K : KM} {S O : SM} {sk : Int → Prop}
set_option maxRecDepth 100000 in
theorem add64 (a : Addr) (x : Int) (w : World) (hc : w.cell? a = some (.int .i64 x)) (hz : w.frozen? a = false) :
    Calls Tryz.prog 159 #[.pointer (some a), .int .i64 1] w fun e w' => (∃ y, e = .returned (.int .i64 y)) ∧ ∃ y, w' = w.setCell a (.int .i64 y) := by
  obtain ⟨b, off, so⟩ := a
  obtain ⟨s, hs⟩ : ∃ s, IntKind.i64.wrap (x + 1) = s := ⟨_, rfl⟩
  have hadd := run_call_add (P := Tryz.prog) Tryz.func182 (by kernel_rfl) (by kernel_rfl) (by kernel_rfl) .i64 (by kernel_rfl) (y := 1) (s := s) hc hz (by simp [go_sem]; exact hs)
  go_enter Tryz.func159, Tryz.ntmps159
  go_wp2
  go_ret
  exact ⟨⟨s, rfl⟩, s, rfl⟩
theorem CcW.mono {sk' : Int → Prop} (h : CcW w c kb d sb ob n K S O sk) (hs : ∀ k, sk k → sk' k) : CcW w c kb d sb ob n K S O sk' := ⟨h.blk, h.map, h.dk, fun p hp => ⟨(h.rows p hp).1, (h.rows p hp).2.imp (hs _) id⟩, h.nes⟩
theorem CcW.hits (h : CcW w c kb d sb ob n K S O sk) (j : Nat) (hj : j = 4 ∨ j = 5) : (∃ x, w.cell? ⟨c, j, none⟩ = some (.int .i64 x)) ∧ w.frozen? ⟨c, j, none⟩ = false ∧ ∀ y, CcW (w.setCell ⟨c, j, none⟩ (.int .i64 y)) c kb d sb ob n K S O sk := by
  obtain ⟨now, hi, mi, hb⟩ := h.blk
  rcases hj with rfl | rfl
  · exact ⟨⟨hi, hb.cell rfl⟩, hb.free _, fun y => h.turn (tch_g (grown_put w _ _)) (by simp) ⟨now, y, mi, hb.put 4 _⟩⟩
  · exact ⟨⟨mi, hb.cell rfl⟩, hb.free _, fun y => h.turn (tch_g (grown_put w _ _)) (by simp) ⟨now, hi, y, hb.put 5 _⟩⟩
theorem CcW.row {i : Int} {e : Ke} (h : CcW w c kb d sb ob n K S O (fun _ => False)) (he : aget K i = some e) : BSrc w e.A 512 (secL (latD S O i)) := by
  obtain ⟨h1, h2⟩ := h.rows (i, e) (aget_mem he)
  rcases h2 with h2 | h2
  · exact h2.elim
  · simp only at h1 h2
    rw [← h2]
    exact h1
theorem CcW.bsrc {A : Option Addr} {m : Nat} {ys : List Value} (h : CcW w c kb d sb ob n K S O sk) (hs : BSrc w A m ys) (hT : Tch [c, kb] w w') : BSrc w' A m ys := by
  obtain ⟨now, hi, mi, hb⟩ := h.blk
  refine hs.tch hT (fun b cs hk hm => ?_)
  simp only [List.mem_cons, List.not_mem_nil, or_false] at hm
  rcases hm with rfl | rfl
  · exact blk_ne_tyD hk hb (by decide) rfl
  · exact blk_ne_mapD h.map hk rfl
theorem CcW.own {base m sz : Nat} {v : Value} {ys : List Value} (h : CcW w c kb d sb ob n K S O sk) (ho : w.ownsRow base 5 sz v m ys) (hT : Tch [c, kb] w w') : w'.ownsRow base 5 sz v m ys := by
  obtain ⟨now, hi, mi, hb⟩ := h.blk
  refine ⟨ho.1, ho.2.imp id ?_⟩
  rintro ⟨g, cap, cur, e1, a1, a2, r⟩
  have h3 : Blk w g 5 cur := a2
  refine ⟨g, cap, cur, e1, a1, h3.tch hT (fun hm => ?_), r⟩
  simp only [List.mem_cons, List.not_mem_nil, or_false] at hm
  rcases hm with rfl | rfl
  · exact blk_ne_tyD h3 hb (by decide) rfl
  · exact blk_ne_mapD h.map h3 rfl
theorem own_baseD {w : World} {b1 b2 m sz : Nat} {e : TypeId} {v : Value} {ys : List Value} (ho : w.ownsRow b2 e sz v m ys) (hb : b1 ≤ b2) : w.ownsRow b1 e sz v m ys := by
  refine ⟨ho.1, ho.2.imp id ?_⟩
  rintro ⟨g, cap, cur, e1, a1, r⟩
  exact ⟨g, cap, cur, e1, Nat.le_trans hb a1, r⟩
def RdPost (w : World) (c kb d sb ob n : Nat) (K : KM) (S O : SM) (i : Int) (e : Ending) (w' : World) : Prop := ∃ v K', e = .returned (.tuple #[v, .int .i64 0]) ∧ w'.ownsRow w.heap.size 5 1 v 512 (secL (latD S O i)) ∧ CcW w' c kb d sb ob n K' S O (fun _ => False) ∧ K'.length ≤ K.length + 1 ∧ Tch [c, kb] w w' ∧ ∀ g, g < w.heap.size → Avoid K g → Avoid K' g
set_option maxRecDepth 100000 in
set_option maxHeartbeats 1000000 in
theorem cc_read (h : CcW w c kb d sb ob n K S O (fun _ => False)) (i : Nat) (hi : i < n) (hK : K.length ≤ 1000000) :
    Calls Tryz.prog 126 #[.pointer (some ⟨c, 0, none⟩), .int .i64 (i : Int)] w (RdPost w c kb d sb ob n K S O i) := by
  have H := Lib.hid h
  have HI := Lib.hid (show i < n ∧ -9223372036854775808 ≤ (i : Int) ∧ (i : Int) ≤ 9223372036854775807 from ⟨hi, by have := h.dk.rng; omega⟩)
  have HK := Lib.hid hK
  have c0 := h.c0
  have c3 := h.c3
  obtain ⟨A0, m0, cap0, at0, hv⟩ := look_ke (aget K (i : Int))
  have HV := Lib.hid hv
  have kei : (Tryz.prog.info? 253).map (·.size) = some [Value.slice A0 m0 cap0, .int .i64 at0].length := by show _ = some 2; kernel_rfl
  obtain ⟨b, hb⟩ : ∃ b, (aget K (i : Int)).isSome = b := ⟨_, rfl⟩
  have HB := Lib.hid hb
  have HR := Lib.hid (show b = true → m0 = 512 ∧ BSrc w A0 512 (secL (latD S O i)) from fun hbt => by
    subst hbt
    obtain ⟨e, he⟩ := Option.isSome_iff_exists.1 hb
    rw [he] at hv
    have h1 := h.row he
    simp only [Option.map_some, Option.getD_some, veK] at hv
    injection hv with hv
    simp only [Array.mk.injEq, List.cons.injEq, Value.slice.injEq, Value.int.injEq, and_true, true_and] at hv
    obtain ⟨⟨hA, hm, _⟩, _⟩ := hv
    rw [← hA]
    exact ⟨hm.symm, h1⟩)
  clear h hi hK hv hb
  go_enter Tryz.func126, Tryz.ntmps126
  go_upto_region 6 with (first
    | (refine wpl_over rfl 253 (.tmp 6) (.tmp 27) (by rfl) w.heap.size [Value.slice A0 m0 cap0, .int .i64 at0] (by rfl) (by rfl) _ _ KA.out kei (by rw [CA.out]; rfl) (by simp [Value.oneCell']) ?_; intro w2 hk hg hz; have K2 := Lib.hid hk; have L2 := Lib.hid (bl_g L1.out hg (Nat.le_refl _)); have C2 := Lib.hid (H.out.below L2.out); have k0 := hk.cell (i := 0) (v := .slice A0 m0 cap0) rfl; have c0 := C2.out.c0; clear hk hg hz; simp only [Act.put, List.setIfInBounds_toArray, List.set_cons_zero, List.set_cons_succ])
    | (refine wpl_alloc rfl 253 (by rfl) Tryz.zeroValue253 2 (by rfl) ?_; intro w1 csA hk hc hg hz; have KA := Lib.hid hk; have CA := Lib.hid hc; have L1 := Lib.hid (bl_n (Below.refl w.heap.size w) hg); clear hk hc hg hz; simp only [Act.put, List.setIfInBounds_toArray, List.set_cons_zero, List.set_cons_succ])
    | (refine wpl_mlookOk rfl 49 (.tmp 24) (.tmp 25) (by rfl) keyed_int Tryz.underlying49 H.out.map (by rfl) (i : Int) (by rfl) zero_ke (lD_inj _) (key_D HI.out.2) ?_; rewrite [HV.out, HB.out]; simp only [Act.put, List.setIfInBounds_toArray, List.set_cons_zero, List.set_cons_succ])
    | (go_at_call 158; refine (dk_down H.out.dk).mono ?_; rintro e w1 ⟨rfl, rfl⟩)
    | (go_at_call 47; refine (cc_known H.out).mono ?_; rintro e w1 ⟨rfl, rfl⟩)
    )
  clear c3 kei KA CA HV
  cases b with
  | true =>
    obtain ⟨hm, hS⟩ := HR.out (by trivial)
    obtain ⟨b0, off0, rfl, _, _⟩ := hS.rng
    subst hm
    have S2 := Lib.hid (hS.below L2.out)
    obtain ⟨⟨x, hxc⟩, hzf, hturn⟩ := C2.out.hits 4 (.inl rfl)
    have HT := Lib.hid hturn
    clear hS hturn HR
    go_wp2_with (first
      | (go_at_call 145; refine (bclone_any ⟨b0, off0, none⟩ 512 cap0 S5.out.src (secL_one _) (by omega)).mono ?_; rintro e w6 ⟨v6, rfl, ho, hb⟩; have O6 := Lib.hid (own_baseD ho W5.out); have C6 := Lib.hid (C5.out.below hb); have T6 := Lib.hid (show Tch [c, kb] w w6 from T5.out.trans (Tch.below hb)); clear ho hb)
      | (go_at_call 117; refine (cc_keep (C4.out.mono (fun _ h => h.elim)) HI.out.2 S4.out HK.out).mono ?_; rintro e w5 ⟨K', rfl, hC, hl, hT, hA⟩; have AV := Lib.hid hA; have S5 := Lib.hid (C4.out.bsrc S4.out hT); have C5 := Lib.hid hC; have HL5 := Lib.hid hl; have T5 := Lib.hid (T4.out.trans hT); have W5 := Lib.hid (show w.heap.size ≤ w5.heap.size from T5.out.size); have k5 := (K4.out.tch hT (by have := blk_ne_mapD C4.out.map K4.out; obtain ⟨_, _, _, hcb⟩ := C4.out.blk; have h2 := blk_ne_tyD K4.out hcb (by decide); simp; exact ⟨h2, this⟩)).cell (i := 0) (v := .slice (some ⟨b0, off0, none⟩) 512 cap0) rfl; clear hC hl hT hA)
      | (go_at_call 159; refine (add64 ⟨c, 4, none⟩ x w2 hxc hzf).mono ?_; rintro e w4 ⟨⟨y, rfl⟩, z, hw⟩; have TW := Lib.hid (show Tch [c, kb] w2 w4 by rw [hw]; exact (tch_g (grown_put w2 ⟨c, 4, none⟩ _)).mono (by simp)); have C4 := Lib.hid (show CcW w4 c kb d sb ob n K S O (fun _ => False) by rw [hw]; exact HT.out z); have S4 := Lib.hid (C2.out.bsrc S2.out TW.out); have T4 := Lib.hid (show Tch [c, kb] w w4 from (Tch.below L2.out).trans TW.out); have K4 := Lib.hid (K2.out.tch TW.out (by have := blk_ne_mapD C2.out.map K2.out; obtain ⟨_, _, _, hcb⟩ := C2.out.blk; have h2 := blk_ne_tyD K2.out hcb (by decide); simp; exact ⟨h2, this⟩)); have k4 := K4.out.cell (i := 0) (v := .slice (some ⟨b0, off0, none⟩) 512 cap0) rfl; clear hw))
    go_ret2
    exact ⟨v6, K', rfl, O6.out, C6.out, HL5.out, T6.out, fun g hg => AV.out g (by have := T4.out.size; omega)⟩
  | false =>
    clear HR
    go_upto_region 11 with (go_at_call 160; refine (dk_read C2.out.dk i HI.out.1).mono ?_; rintro e w3 ⟨v3, rfl, ho, hb⟩; obtain ⟨A3, cap3, rfl, _⟩ := own_slice ho; have O3 := Lib.hid ho; have C3 := Lib.hid (C2.out.below hb); have L3 := Lib.hid (below_chain L2.out hb); clear ho hb)
    obtain ⟨⟨x, hxc⟩, hzf, hturn⟩ := C3.out.hits 5 (.inr rfl)
    have HT := Lib.hid hturn
    have O3' := Lib.hid (own_baseD O3.out L2.out.size)
    clear hturn
    go_wp2_with (first
      | (go_at_call 117; refine (cc_keep (C4.out.mono (fun _ h => h.elim)) HI.out.2 (BSrc.of_own O4.out (by omega)) HK.out).mono ?_; rintro e w5 ⟨K', rfl, hC, hl, hT, hA⟩; have AV := Lib.hid hA; have O5 := Lib.hid (C4.out.own O4.out hT); have C5 := Lib.hid hC; have HL5 := Lib.hid hl; have T5 := Lib.hid (T4.out.trans hT); clear hC hl hT hA)
      | (go_at_call 159; refine (add64 ⟨c, 5, none⟩ x w3 hxc hzf).mono ?_; rintro e w4 ⟨⟨y, rfl⟩, z, hw⟩; have TW := Lib.hid (show Tch [c, kb] w3 w4 by rw [hw]; exact (tch_g (grown_put w3 ⟨c, 5, none⟩ _)).mono (by simp)); have C4 := Lib.hid (show CcW w4 c kb d sb ob n K S O (fun _ => False) by rw [hw]; exact HT.out z); have O4 := Lib.hid (C3.out.own O3'.out TW.out); have T4 := Lib.hid (show Tch [c, kb] w w4 from (Tch.below L3.out).trans TW.out); clear hw))
    go_ret2
    exact ⟨_, K', rfl, O5.out, C5.out, HL5.out, T5.out, fun g hg => AV.out g (by have := T4.out.size; omega)⟩
end
end Go.Proofs.YtpadifphnbdbpaaGreat
namespace Go.Proofs.YtpadifphnbdbpaaGreat
open Go.RowKit Go.Maps
set_option linter.unusedVariables false
set_option linter.unusedSimpArgs false
section
variable {w w' : World} {c kb d sb ob n : Nat} {K : KM} {S O : SM} {sk : Int → Prop}
theorem latD_put (S O : SM) (i : Int) (x : Sec) (j : Int) : latD S (aput O i x) j = if i = j then x else latD S O j := by
  unfold latD
  rw [aget_put]
  by_cases h : i = j
  · rw [if_pos h, if_pos h]
    rfl
  · rw [if_neg h, if_neg h]
theorem bsrc_mapD {A : Option Addr} {m : Nat} {ys : List Value} {b : Nat} {S : SM} (hs : BSrc w A m ys) (h : MapIs Tryz.prog 3 kD lD vSec w b S) (hT : Tch [b] w w') : BSrc w' A m ys :=
  hs.tch hT (fun b cs hb => by have := blk_ne_mapD h hb; simpa using this)
theorem CcW.wrote {i : Int} {x : Sec} (h : CcW w c kb d sb ob n K S O (fun _ => False)) (hD : DkIs w' d sb ob n S (aput O i x)) (hT : Tch [ob] w w') : CcW w' c kb d sb ob n K S (aput O i x) (fun k => k = i) := by
  obtain ⟨now, hi, mi, hb⟩ := h.blk
  refine ⟨⟨now, hi, mi, hb.tch hT (by have := blk_ne_mapD h.dk.opn hb; simpa using this)⟩, h.map.tch hT (by have := h.nes.2; simpa using this), hD, fun p hp => ⟨bsrc_mapD (h.rows p hp).1 h.dk.opn hT, ?_⟩, h.nes⟩
  by_cases e : i = p.1
  · exact .inl e.symm
  · rw [latD_put, if_neg e]
    exact .inr ((h.rows p hp).2.resolve_left (fun h => h))
def WrC (w : World) (c kb d sb ob n : Nat) (K : KM) (S O : SM) (i : Int) (x : Sec) (e : Ending) (w' : World) : Prop := ∃ K', e = .returned (.int .i64 0) ∧ CcW w' c kb d sb ob n K' S (aput O i x) (fun _ => False) ∧ K'.length ≤ K.length + 1 ∧ Tch [c, kb, ob] w w'
set_option maxRecDepth 100000 in
theorem cc_write (h : CcW w c kb d sb ob n K S O (fun _ => False)) (i : Nat) (hi : i < n) {A : Option Addr} {cap : Nat} {x : Sec} (hs : BSrc w A 512 (secL x)) (hK : K.length ≤ 1000000) (hO : O.length ≤ 1000000) :
    Calls Tryz.prog 76 #[.pointer (some ⟨c, 0, none⟩), .int .i64 (i : Int), .slice A 512 cap] w (WrC w c kb d sb ob n K S O i x) := by
  have H := Lib.hid h
  have HI := Lib.hid (show i < n ∧ -9223372036854775808 ≤ (i : Int) ∧ (i : Int) ≤ 9223372036854775807 from ⟨hi, by have := h.dk.rng; omega⟩)
  have HS := Lib.hid hs
  have HK := Lib.hid hK
  have HO := Lib.hid hO
  have c0 := h.c0
  clear h hi hs hK hO
  go_enter Tryz.func76, Tryz.ntmps76
  go_wp2_with (first
    | (go_at_call 117; refine (cc_keep C1.out HI.out.2 S1.out HK.out).mono ?_; rintro e w5 ⟨K', rfl, hC, hl, hT, hA⟩; have C5 := Lib.hid hC; have HL5 := Lib.hid hl; have T5 := Lib.hid ((T1.out.mono (T' := [c, kb, ob]) (by simp)).trans (hT.mono (fun k hk => by simp at hk; simp; omega))); clear hC hl hT hA)
    | (go_at_call 116; refine (dk_write H.out.dk i HI.out.1 HS.out HO.out).mono ?_; rintro e w1 ⟨rfl, hD, hT⟩; have T1 := Lib.hid hT; have S1 := Lib.hid (show BSrc w1 A 512 (secL (latD S (aput O (i : Int) x) i)) by rw [latD_put, if_pos rfl]; exact bsrc_mapD HS.out H.out.dk.opn hT); have C1 := Lib.hid (show CcW w1 c kb d sb ob n K S (aput O (i : Int) x) (fun k => k = (i : Int)) from H.out.wrote hD hT); clear hD hT)
    | (go_at_call 47; refine (cc_known H.out).mono ?_; rintro e w1 ⟨rfl, rfl⟩))
  go_ret
  exact ⟨K', rfl, C5.out, HL5.out, T5.out⟩
def SyC (w : World) (c kb d sb ob n : Nat) (K : KM) (S O : SM) (e : Ending) (w' : World) : Prop := ∃ S', e = .returned (.int .i64 0) ∧ CcW w' c kb d sb ob n K S' [] (fun _ => False) ∧ (∀ i, latD S' [] i = latD S O i) ∧ S'.length ≤ S.length + O.length ∧ Tch [sb, ob] w w'
theorem CcW.synced {S' : SM} (h : CcW w c kb d sb ob n K S O (fun _ => False)) (hD : DkIs w' d sb ob n S' []) (hl : ∀ i, latD S' [] i = latD S O i) (hT : Tch [sb, ob] w w') : CcW w' c kb d sb ob n K S' [] (fun _ => False) := by
  obtain ⟨now, hi, mi, hb⟩ := h.blk
  refine ⟨⟨now, hi, mi, hb.tch hT (by have h1 := blk_ne_mapD h.dk.opn hb; have h2 := blk_ne_mapD h.dk.safe hb; simp; exact ⟨h2, h1⟩)⟩, h.map.tch hT (by have := h.nes; simp; exact this), hD, fun p hp => ⟨(h.rows p hp).1.tch hT (fun b cs hk => by have h1 := blk_ne_mapD h.dk.opn hk; have h2 := blk_ne_mapD h.dk.safe hk; simp; exact ⟨h2, h1⟩), ?_⟩, h.nes⟩
  rw [hl]
  exact (h.rows p hp).2
set_option maxRecDepth 100000 in
theorem cc_sync (h : CcW w c kb d sb ob n K S O (fun _ => False)) (hO : S.length + O.length ≤ 1000000) :
    Calls Tryz.prog 38 #[.pointer (some ⟨c, 0, none⟩)] w (SyC w c kb d sb ob n K S O) := by
  have H := Lib.hid h
  have HO := Lib.hid hO
  have c0 := h.c0
  clear h hO
  go_enter Tryz.func38, Tryz.ntmps38
  go_wp2_with (first
    | (go_at_call 81; refine (dk_sync H.out.dk HO.out).mono ?_; rintro e w1 ⟨S', rfl, hD, hl, hn, hT⟩; have C1 := Lib.hid (H.out.synced hD hl hT); have L1 := Lib.hid hl; have N1 := Lib.hid hn; have T1 := Lib.hid hT; clear hD hl hn hT)
    | (go_at_call 47; refine (cc_known H.out).mono ?_; rintro e w1 ⟨rfl, rfl⟩))
  go_ret
  exact ⟨S', rfl, C1.out, L1.out, N1.out, T1.out⟩
theorem built_dk (n : Int) (a b : Nat) : Tryz.prog.built 59 [(0, .int .i64 n), (1, .map (some a)), (2, .map (some b))] = some #[.int .i64 n, .map (some a), .map (some b), .int .i64 0, .bool false] := by kernel_rfl
theorem built_cc (d kb : Nat) (m : Int) : Tryz.prog.built 56 [(0, .pointer (some ⟨d, 0, none⟩)), (1, .int .i64 m), (3, .map (some kb))] = some #[.pointer (some ⟨d, 0, none⟩), .int .i64 m, .int .i64 0, .map (some kb), .int .i64 0, .int .i64 0] := by kernel_rfl
def DkNew (n : Nat) (w : World) (e : Ending) (w' : World) : Prop := ∃ d sb ob, e = .returned (.pointer (some ⟨d, 0, none⟩)) ∧ DkIs w' d sb ob n [] [] ∧ Below w.heap.size w w' ∧ w.heap.size ≤ d ∧ w.heap.size ≤ sb ∧ w.heap.size ≤ ob
set_option maxRecDepth 100000 in
theorem dk_new (n : Nat) (hn : 1 ≤ n ∧ n ≤ 262144) (w : World) : Calls Tryz.prog 8 #[.int .i64 (n : Int)] w (DkNew n w) := by
  have hmm := @run_makeMap Tryz.prog
  have hb := built_dk (n : Int) w.heap.size (w.heap.size + 1)
  have HN := Lib.hid hn
  have e1 : ¬ (n : Int) < 1 := by omega
  have e2 : ¬ (262144 : Int) < (n : Int) := by omega
  clear hn
  go_enter Tryz.func8, Tryz.ntmps8
  go_wp2_with (refine wpl_box rfl 59 (.tmp 12) (by rfl) _ (by rfl) ?_; intro w1 hk hg hz; have K := Lib.hid hk; have G := Lib.hid hg; clear hk hg hz; simp only [Act.put, List.setIfInBounds_toArray, List.set_cons_zero, List.set_cons_succ])
  go_ret
  have hs1 : (w.alloc (Obj.map #[] 0)).heap.size = w.heap.size + 1 := by simp
  have hs2 : ((w.alloc (Obj.map #[] 0)).alloc (Obj.map #[] 0)).heap.size = w.heap.size + 2 := by simp
  have hm1 : MapIs Tryz.prog 3 kD lD vSec (w.alloc (Obj.map #[] 0)) w.heap.size ([] : SM) := MapIs.made w _ _ _ _ _
  have hm2 : MapIs Tryz.prog 3 kD lD vSec ((w.alloc (Obj.map #[] 0)).alloc (Obj.map #[] 0)) (w.heap.size + 1) ([] : SM) := by
    have := MapIs.made (w.alloc (Obj.map #[] 0)) Tryz.prog 3 kD lD vSec
    rw [hs1] at this
    exact this
  have hm3 := (hm1.kept (World.grownBy_alloc (w.alloc (Obj.map #[] 0)) (Obj.map #[] 0) none) (by simp)).kept G.out (by simp)
  have hk := K.out
  rw [hs2] at hk
  refine ⟨w.heap.size + 2, w.heap.size, w.heap.size + 1, by rw [← hs2]; rfl, ⟨hk, hm3, hm2.kept G.out (by simp), by omega, HN.out⟩, bl_n (((Below.refl _ _).alloc (Nat.le_refl _) _).alloc (by rw [hs1]; omega) _) G.out, by omega, by omega, by omega⟩
def CcNew (w : World) (d sb ob n : Nat) (S O : SM) (e : Ending) (w' : World) : Prop := ∃ c kb, e = .returned (.pointer (some ⟨c, 0, none⟩)) ∧ CcW w' c kb d sb ob n [] S O (fun _ => False) ∧ Below w.heap.size w w' ∧ w.heap.size ≤ c ∧ w.heap.size ≤ kb
set_option maxRecDepth 100000 in
theorem cc_new (h : DkIs w d sb ob n S O) : Calls Tryz.prog 7 #[.pointer (some ⟨d, 0, none⟩), .int .i64 8] w (CcNew w d sb ob n S O) := by
  have hmm := @run_makeMap Tryz.prog
  have hb := built_cc d w.heap.size 8
  have H := Lib.hid h
  have e1 : ((n : Int) == 0) = false := beq_eq_false_iff_ne.2 (by have := h.rng; omega)
  have e2 : ¬ (n : Int) = 0 := by have := h.rng; omega
  clear h
  go_enter Tryz.func7, Tryz.ntmps7
  go_wp2_with (first
    | (go_at_call 17; refine (dk_sectors H.out).mono ?_; rintro e w1 ⟨rfl, rfl⟩)
    | (refine wpl_box rfl 56 (.tmp 15) (by rfl) _ (by rfl) ?_; intro w1 hk hg hz; have K := Lib.hid hk; have G := Lib.hid hg; clear hk hg hz; simp only [Act.put, List.setIfInBounds_toArray, List.set_cons_zero, List.set_cons_succ]))
  go_ret
  have hs1 : (w.alloc (Obj.map #[] 0)).heap.size = w.heap.size + 1 := by simp
  have hm1 : MapIs Tryz.prog 3 kD lD veK (w.alloc (Obj.map #[] 0)) w.heap.size ([] : KM) := MapIs.made w _ _ _ _ _
  have hk := K.out
  rw [hs1] at hk
  have hb1 : Below w.heap.size w w1 := bl_n ((Below.refl _ _).alloc (Nat.le_refl _) _) G.out
  refine ⟨w.heap.size + 1, w.heap.size, by rw [← hs1]; rfl, ⟨⟨0, 0, 0, hk⟩, hm1.kept G.out (by simp), H.out.below hb1, (by intro p hp; cases hp), by have := H.out.safe.lt; have := H.out.opn.lt; omega⟩, hb1, by omega, by omega⟩
/-- A cache over a disk of n sectors whose latest bytes are L; N: how many entries there may be. -/
def CcI (w : World) (c kb d sb ob n : Nat) (L : Int → Sec) (N : Nat) : Prop := ∃ K S O, CcW w c kb d sb ob n K S O (fun _ => False) ∧ (∀ i, latD S O i = L i) ∧ K.length ≤ N ∧ S.length + O.length ≤ N
def setL (L : Int → Sec) (i : Int) (x : Sec) (j : Int) : Sec := if i = j then x else L j
variable {L : Int → Sec} {N : Nat}
theorem CcI.below (h : CcI w c kb d sb ob n L N) (hb : Below w.heap.size w w') : CcI w' c kb d sb ob n L N := by
  obtain ⟨K, S, O, h1, h2⟩ := h
  exact ⟨K, S, O, h1.below hb, h2⟩
theorem CcI.rng (h : CcI w c kb d sb ob n L N) : 1 ≤ n ∧ n ≤ 262144 := by
  obtain ⟨K, S, O, h1, h2⟩ := h
  exact h1.dk.rng
theorem CcI.lts (h : CcI w c kb d sb ob n L N) : c < w.heap.size ∧ kb < w.heap.size ∧ d < w.heap.size ∧ sb < w.heap.size ∧ ob < w.heap.size := by
  obtain ⟨K, S, O, h1, h2⟩ := h
  obtain ⟨now, hi, mi, hb⟩ := h1.blk
  exact ⟨hb.lt, h1.map.lt, h1.dk.blk.lt, h1.dk.safe.lt, h1.dk.opn.lt⟩
/-- Bytes in a row of bytes stay where a cache and its disk turn. -/
theorem CcI.bsrc {A : Option Addr} {m : Nat} {ys : List Value} (h : CcI w c kb d sb ob n L N) (hs : BSrc w A m ys) (hT : Tch [c, kb, sb, ob] w w') : BSrc w' A m ys := by
  obtain ⟨K, S, O, h1, h2⟩ := h
  obtain ⟨now, hi, mi, hb⟩ := h1.blk
  refine hs.tch hT (fun b cs hk hm => ?_)
  simp only [List.mem_cons, List.not_mem_nil, or_false] at hm
  rcases hm with rfl | rfl | rfl | rfl
  · exact blk_ne_tyD hk hb (by decide) rfl
  · exact blk_ne_mapD h1.map hk rfl
  · exact blk_ne_mapD h1.dk.safe hk rfl
  · exact blk_ne_mapD h1.dk.opn hk rfl
theorem CcI.noBlk {b : Nat} {t : TypeId} {cs : Array Value} (h : CcI w c kb d sb ob n L N) (hk : Blk w b t cs) (ht : t ≠ 56) : b ∉ [c, kb, sb, ob] := by
  obtain ⟨K, S, O, h1, h2⟩ := h
  obtain ⟨now, hi, mi, hb⟩ := h1.blk
  intro hm
  simp only [List.mem_cons, List.not_mem_nil, or_false] at hm
  rcases hm with rfl | rfl | rfl | rfl
  · exact blk_ne_tyD hk hb ht rfl
  · exact blk_ne_mapD h1.map hk rfl
  · exact blk_ne_mapD h1.dk.safe hk rfl
  · exact blk_ne_mapD h1.dk.opn hk rfl
theorem ci_sectors (h : CcI w c kb d sb ob n L N) : Calls Tryz.prog 20 #[.pointer (some ⟨c, 0, none⟩)] w fun e w' => e = .returned (.int .i64 (n : Int)) ∧ w = w' := by
  obtain ⟨K, S, O, h1, h2⟩ := h
  exact cc_sectors h1
def CiRead (w : World) (c kb d sb ob n : Nat) (L : Int → Sec) (N : Nat) (i : Int) (e : Ending) (w' : World) : Prop := ∃ v, e = .returned (.tuple #[v, .int .i64 0]) ∧ w'.ownsRow w.heap.size 5 1 v 512 (secL (L i)) ∧ CcI w' c kb d sb ob n L (N + 1) ∧ Tch [c, kb, sb, ob] w w'
theorem ci_read (h : CcI w c kb d sb ob n L N) (i : Nat) (hi : i < n) (hN : N ≤ 1000000) : Calls Tryz.prog 126 #[.pointer (some ⟨c, 0, none⟩), .int .i64 (i : Int)] w (CiRead w c kb d sb ob n L N i) := by
  obtain ⟨K, S, O, h1, h2, h3, h4⟩ := h
  refine (cc_read h1 i hi (by omega)).mono ?_
  rintro e w1 ⟨v, K', rfl, ho, hC, hl, hT, _⟩
  rw [h2] at ho
  exact ⟨v, rfl, ho, ⟨K', S, O, hC, h2, by omega, by omega⟩, hT.mono (fun k hk => by simp at hk; simp; omega)⟩
def CiWrite (w : World) (c kb d sb ob n : Nat) (L : Int → Sec) (N : Nat) (e : Ending) (w' : World) : Prop := e = .returned (.int .i64 0) ∧ CcI w' c kb d sb ob n L (N + 1) ∧ Tch [c, kb, sb, ob] w w'
theorem ci_write (h : CcI w c kb d sb ob n L N) (i : Nat) (hi : i < n) {A : Option Addr} {cap : Nat} {x : Sec} (hs : BSrc w A 512 (secL x)) (hN : N ≤ 1000000) :
    Calls Tryz.prog 76 #[.pointer (some ⟨c, 0, none⟩), .int .i64 (i : Int), .slice A 512 cap] w (CiWrite w c kb d sb ob n (setL L i x) N) := by
  obtain ⟨K, S, O, h1, h2, h3, h4⟩ := h
  refine (cc_write h1 i hi hs (by omega) (by omega)).mono ?_
  rintro e w1 ⟨K', rfl, hC, hl, hT⟩
  exact ⟨rfl, ⟨K', S, _, hC, fun j => by rw [latD_put]; unfold setL; rw [h2], by omega, by have := aput_len O (i : Int) x; omega⟩, hT.mono (fun k hk => by simp at hk; simp; omega)⟩
theorem ci_sync (h : CcI w c kb d sb ob n L N) (hN : N ≤ 1000000) : Calls Tryz.prog 38 #[.pointer (some ⟨c, 0, none⟩)] w (CiWrite w c kb d sb ob n L N) := by
  obtain ⟨K, S, O, h1, h2, h3, h4⟩ := h
  refine (cc_sync h1 (by omega)).mono ?_
  rintro e w1 ⟨S', rfl, hC, hl, hn, hT⟩
  exact ⟨rfl, ⟨K, S', [], hC, fun j => by rw [hl, h2], by omega, by simp; omega⟩, hT.mono (fun k hk => by simp at hk; simp; omega)⟩
/-- .. whose rows lie in none of the blocks G. -/
def CcG (w : World) (c kb d sb ob n : Nat) (L : Int → Sec) (N : Nat) (G : Nat → Prop) : Prop := ∃ K S O, CcW w c kb d sb ob n K S O (fun _ => False) ∧ (∀ i, latD S O i = L i) ∧ K.length ≤ N ∧ S.length + O.length ≤ N ∧ ∀ g, G g → Avoid K g
theorem CcG.ci {G : Nat → Prop} (h : CcG w c kb d sb ob n L N G) : CcI w c kb d sb ob n L N := by
  obtain ⟨K, S, O, h1, h2, h3, h4, _⟩ := h
  exact ⟨K, S, O, h1, h2, h3, h4⟩
theorem CcI.cg (h : CcI w c kb d sb ob n L N) : CcG w c kb d sb ob n L N (fun g => w.heap.size ≤ g) := by
  obtain ⟨K, S, O, h1, h2, h3, h4⟩ := h
  refine ⟨K, S, O, h1, h2, h3, h4, fun g hg p hp a ha e => ?_⟩
  obtain ⟨b, off, cs, e2, hb, _⟩ := (h1.rows p hp).1
  rw [ha] at e2
  injection e2 with e2
  have := hb.lt
  rw [e2] at e
  simp only at e
  omega
theorem CcG.mono {G G' : Nat → Prop} (h : CcG w c kb d sb ob n L N G) (hG : ∀ g, G' g → G g) : CcG w c kb d sb ob n L N G' := by
  obtain ⟨K, S, O, h1, h2, h3, h4, h5⟩ := h
  exact ⟨K, S, O, h1, h2, h3, h4, fun g hg => h5 g (hG g hg)⟩
def CgRead (w : World) (c kb d sb ob n : Nat) (L : Int → Sec) (N : Nat) (G : Nat → Prop) (i : Int) (e : Ending) (w' : World) : Prop := ∃ v, e = .returned (.tuple #[v, .int .i64 0]) ∧ w'.ownsRow w.heap.size 5 1 v 512 (secL (L i)) ∧ CcG w' c kb d sb ob n L (N + 1) G ∧ Tch [c, kb, sb, ob] w w'
theorem cg_read {G : Nat → Prop} (h : CcG w c kb d sb ob n L N G) (hG : ∀ g, G g → g < w.heap.size) (i : Nat) (hi : i < n) (hN : N ≤ 1000000) : Calls Tryz.prog 126 #[.pointer (some ⟨c, 0, none⟩), .int .i64 (i : Int)] w (CgRead w c kb d sb ob n L N G i) := by
  obtain ⟨K, S, O, h1, h2, h3, h4, h5⟩ := h
  refine (cc_read h1 i hi (by omega)).mono ?_
  rintro e w1 ⟨v, K', rfl, ho, hC, hl, hT, hA⟩
  rw [h2] at ho
  exact ⟨v, rfl, ho, ⟨K', S, O, hC, h2, by omega, by omega, fun g hg => hA g (hG g hg) (h5 g hg)⟩, hT.mono (fun k hk => by simp at hk; simp; omega)⟩
/-- A row of bytes turns that holds none of the cache's. -/
theorem CcG.turn {G : Nat → Prop} {g : Nat} {cs : Array Value} (h : CcG w c kb d sb ob n L N G) (hG : G g) (hb : Blk w g 5 cs) (hT : Tch [g] w w') : CcG w' c kb d sb ob n L N G := by
  obtain ⟨K, S, O, h1, h2, h3, h4, h5⟩ := h
  obtain ⟨now, hi, mi, hc⟩ := h1.blk
  have n0 : c ∉ [g] := by have := blk_ne_tyD hc hb (by decide); simpa using this
  have n1 : kb ∉ [g] := by have := blk_ne_mapD h1.map hb; simpa using this.symm
  have n2 : d ∉ [g] := by have := blk_ne_tyD h1.dk.blk hb (by decide); simpa using this
  have n3 : sb ∉ [g] := by have := blk_ne_mapD h1.dk.safe hb; simpa using this.symm
  have n4 : ob ∉ [g] := by have := blk_ne_mapD h1.dk.opn hb; simpa using this.symm
  refine ⟨K, S, O, ⟨⟨now, hi, mi, hc.tch hT n0⟩, h1.map.tch hT n1, h1.dk.tch hT n2 n3 n4, fun p hp => ⟨?_, (h1.rows p hp).2⟩, h1.nes⟩, h2, h3, h4, h5⟩
  obtain ⟨b, off, cs2, e2, hb2, h6⟩ := (h1.rows p hp).1
  exact ⟨b, off, cs2, e2, hb2.tch hT (by have := h5 g hG p hp _ e2; simpa using this), h6⟩
theorem CcG.below {G : Nat → Prop} (h : CcG w c kb d sb ob n L N G) (hb : Below w.heap.size w w') : CcG w' c kb d sb ob n L N G := by
  obtain ⟨K, S, O, h1, h2⟩ := h
  exact ⟨K, S, O, h1.below hb, h2⟩
theorem CcG.own {G : Nat → Prop} {base m sz : Nat} {v : Value} {ys : List Value} (h : CcG w c kb d sb ob n L N G) (ho : w.ownsRow base 5 sz v m ys) (hT : Tch [c, kb, sb, ob] w w') : w'.ownsRow base 5 sz v m ys := by
  refine ⟨ho.1, ho.2.imp id ?_⟩
  rintro ⟨g, cap, cur, e1, a1, a2, r⟩
  have h3 : Blk w g 5 cur := a2
  exact ⟨g, cap, cur, e1, a1, h3.tch hT (h.ci.noBlk h3 (by decide)), r⟩
end
end Go.Proofs.YtpadifphnbdbpaaGreat
