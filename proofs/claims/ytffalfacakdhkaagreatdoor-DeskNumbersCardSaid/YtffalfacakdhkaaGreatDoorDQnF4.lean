/-
  what this claim needs of: QnF4, QnF5, QnF6, QnH1 (written by cut.py).
-/
import Derived.Test.YtffalfacakdhkaaGreatDoorDQnJ
import Derived.Laws.BytesArg
namespace Go.Proofs.YtffalfacakdhkaaGreatDoor
open Go.RowKit Go.Maps
set_option linter.unusedVariables false
set_option linter.unusedSimpArgs false
section
variable {w : World}
def fmC (kind ep seq : Nat) (A : Option Addr) (m c : Nat) : List Value := [.int .i64 (kind : Int), .int .i64 (ep : Int), .int .i64 (seq : Int), .slice A m c]
theorem fmC_info (kind ep seq : Nat) (A : Option Addr) (m c : Nat) : (Tryz.prog.info? 359).map (·.size) = some (fmC kind ep seq A m c).length := by show _ = some 4; kernel_rfl
theorem idx2 (a b : Int) (i : Nat) (I x : Int) (hI : I = (i : Int)) (hi : i < 2) (hx : (#[Value.int .i64 a, .int .i64 b] : Array Value)[i]? = some (.int .i64 x)) (w : World) : (Instr.index 469 (.agg #[Value.int .i64 a, .int .i64 b]) (.int .i64 I)).run Tryz.prog w = .ok (.int .i64 x) w := by
 subst hI
 exact idx_arrP _ _ 2 _ _ i _ Tryz.underlying469 Tryz.sizeOf3 Tryz.isAgg3 hi hx w
theorem own_full {w : World} {base g n : Nat} {e : TypeId} {xs : List Value} (h : w.ownsRow base e 1 (.slice (some ⟨g, 0, none⟩) n n) n xs) : Blk w g e xs.toArray := by
 rcases h.2 with ⟨e1, _⟩ | ⟨g', cap, cur, e1, _, hg, _, _, hs, ht⟩
 ·cases e1
 ·injection e1 with e1 e2 e3
  injection e1 with e1
  injection e1 with e1
  subst e1 e3
  have hb : Blk w g e cur := hg
  rw [Nat.mul_one] at hs ht
  have : cur = xs.toArray := by
   rw [← ht, ← hs, ← Array.length_toList, List.take_length]
  rwa [this] at hb
theorem wpl_app_peat0 {w : World} {ops : Array Oper} {rest : List Oper} {o : Oper} {a : Act} {Q : Exit → Act → World → Prop} (hgd : o.guard = none) (s : Operand) (hop : o.op = .call { callee := .builtin .append, args := #[s, .const (.string { data := #[112, 101, 97, 116] })], argTypes := #[25, 9] }) (g : Nat) (hs : a.eval s = .slice (some ⟨g, 0, none⟩) 0 512) (hb : Blk w g 5 (frZ []).toArray)
  (h : ∀ w', Blk w' g 5 (frZ [112, 101, 97, 116]).toArray → w.grownBy w' (some g) → w'.heap.size = w.heap.size → wpList Tryz.prog ops Q rest (a.put o.dst (.slice (some ⟨g, 0, none⟩) 4 512)) w') : wpList Tryz.prog ops Q (o :: rest) a w :=
 wpl_app_peat hgd s _ hop g 0 512 (frZ []) hs hb { data := #[112, 101, 97, 116] } rfl (by show 0 + 4 ≤ 512; omega) (by rw [frZ_len _ (by simp)]; show 0 + 4 ≤ 512; omega) (fun w' h1 h2 h3 => h w' (by
  have := frZ_app [] [112, 101, 97, 116] (by simp)
  show Blk w' g _ (frZ ([] ++ [112, 101, 97, 116])).toArray
  rw [← this]
  exact h1) h2 h3)
theorem src_four {w : World} {b : Nat} {t : TypeId} {v0 v1 v2 v3 : Value} (h : Blk w b t #[v0, v1, v2, v3]) (c : Nat) : Src w 1 (.slice (some ⟨b, 0, none⟩) 4 c) 4 [v0, v1, v2, v3] := by
 refine ⟨_, c, rfl, rfl, fun _ => ⟨b, 0, rfl, h.lt, fun j y hy => ?_⟩⟩
 rw [Nat.zero_add]
 exact h.cell (by simpa using hy)
def FpPost (w : World) (kind ep seq : Nat) (ds : List Int) (e : Ending) (w' : World) : Prop := ∃ g, e = .returned (.tuple #[.slice (some ⟨g, 0, none⟩) 512 512, .int .i64 0]) ∧ Blk w' g 5 (bV (frL kind ep seq ds)).toArray ∧ w.heap.size ≤ g ∧ Below w.heap.size w w'
/-- While out is filled: P stands in it. -/
structure FpI (w : World) (g : Nat) (P : List Int) (A : Option Addr) (m c : Nat) (ds : List Int) (kind ep seq : Nat) (W : World) : Prop where
 out : Blk W g 5 (frZ P).toArray
 box : Blk W w.heap.size 359 (fmC kind ep seq A m c).toArray
 src : Src W 1 (.slice A m c) m (bV ds)
 low : Below w.heap.size w W
 ge : w.heap.size < g
theorem FpI.alloc {g : Nat} {P : List Int} {A : Option Addr} {m c : Nat} {ds : List Int} {kind ep seq : Nat} {W W' : World} (h : FpI w g P A m c ds kind ep seq W) (hb : Below W.heap.size W W') : FpI w g P A m c ds kind ep seq W' :=
 ⟨h.out.below hb h.out.lt, h.box.below hb h.box.lt, h.src.below hb, below_chain h.low hb, h.ge⟩
theorem FpI.turn {g : Nat} {P P' : List Int} {A : Option Addr} {m c : Nat} {ds : List Int} {kind ep seq : Nat} {W W' : World} (hA : 0 < m → ∀ a, A = some a → a.block < w.heap.size) (h : FpI w g P A m c ds kind ep seq W) (ho : Blk W' g 5 (frZ P').toArray) (hT : Tch [g] W W') : FpI w g P' A m c ds kind ep seq W' := by
 have hge := h.ge
 refine ⟨ho, h.box.tch hT (by simp; omega), ?_, h.low.trans (hT.toBelow h.low.size (fun k hk => by simp at hk; omega)), h.ge⟩
 obtain ⟨A', c', e, hl, hc⟩ := h.src
 refine ⟨A', c', e, hl, fun hm => ?_⟩
 obtain ⟨b, off, e2, hlt, hcell⟩ := hc hm
 injection e with e
 subst e
 subst e2
 have hb := hA hm _ rfl
 simp only at hb
 have hs : W'.heap[b]? = W.heap[b]? := hT.block b hlt (by simp; omega)
 exact ⟨b, off, rfl, Nat.lt_of_lt_of_le hlt hT.size, fun j y hy => (World.cell?_of_block (a := ⟨b, off + j, none⟩) hs).trans (hcell j y hy)⟩
theorem fr_num {g : Nat} {P : List Int} {A : Option Addr} {m c : Nat} {ds : List Int} {kind ep seq : Nat} {W : World} (h : FpI w g P A m c ds kind ep seq W) (hA : 0 < m → ∀ a, A = some a → a.block < w.heap.size) (n k n' : Nat) (K : Int) (hP : P.length = n) (hK : K = (k : Int)) (hk : 1 ≤ k ∧ k ≤ 8) (hn : n' = n + k) (hn2 : n + k ≤ 512) (x : Nat) (hx : x ≤ 4611686018427387904) :
  Calls Tryz.prog 333 #[.slice (some ⟨g, 0, none⟩) n 512, .int .u64 (x : Int), .int .i64 K] W fun e W' => e = .returned (.slice (some ⟨g, 0, none⟩) n' 512) ∧ FpI w g (P ++ beL x k) A m c ds kind ep seq W' := by
 subst hK hn hP
 refine (fr_number g 512 (frZ P) P.length x k h.out (frZ_len _ (by omega)) hn2 hk hx (by omega)).mono ?_
 rintro e W' ⟨rfl, hb, hT⟩
 refine ⟨rfl, h.turn hA ?_ hT⟩
 rw [← frZ_app _ _ (by rw [beL_len]; exact hn2), beL_len]
 exact hb
theorem wpl_app_bytes {w : World} {ops : Array Oper} {rest : List Oper} {o : Oper} {a : Act} {Q : Exit → Act → World → Prop} (hgd : o.guard = none) (s x : Operand) (hop : o.op = .call { callee := .builtin .append, args := #[s, x], argTypes := #[25, 25] }) (g n cap : Nat) (cs : List Value) (hs : a.eval s = .slice (some ⟨g, 0, none⟩) n cap) (hb : Blk w g 5 cs.toArray)
  (A : Option Addr) (m c : Nat) (ys : List Value) (hx : a.eval x = .slice A m c) (hsrc : Src w 1 (.slice A m c) m ys) (h1 : ∀ v ∈ ys, v.oneCell' = true) (hroom : n + m ≤ cap) (hfit : n + m ≤ cs.length)
  (h : ∀ w', Blk w' g 5 (cs.take n ++ ys ++ cs.drop (n + m)).toArray → Tch [g] w w' → wpList Tryz.prog ops Q rest (a.put o.dst (.slice (some ⟨g, 0, none⟩) (n + m) cap)) w') : wpList Tryz.prog ops Q (o :: rest) a w := by
 rcases Nat.eq_zero_or_pos m with rfl | hm
 ·refine wpl_app_none hgd s x hop g n cap hs hroom A c hx (h w ?_ (Tch.refl _ _))
  obtain ⟨_, _, _, hl, _⟩ := hsrc
  have : ys = [] := List.eq_nil_of_length_eq_zero (by omega)
  rw [this, List.append_nil, Nat.add_zero, List.take_append_drop]
  exact hb
 ·exact wpl_app_spare hgd s x hop g n cap cs hs hb _ m ys hx hsrc hm h1 hroom hfit (fun w' h1 h2 _ => h w' h1 (tch_g h2))
theorem frZ_rd {W : World} {g : Nat} {P : List Int} (h : Blk W g 5 (frZ P).toArray) : RdI .u8 W (some ⟨g, 0, none⟩) P.length P := by
 refine ⟨rfl, fun _ => ⟨g, 0, rfl, h.lt, fun j hj => ?_⟩⟩
 rw [Nat.zero_add]
 refine h.cell ?_
 unfold frZ
 rw [List.getElem?_toArray, List.getElem?_append_left (by rw [bV_len]; exact hj), bV, List.getElem?_map, List.getElem?_eq_getElem hj, List.getD_eq_getElem?_getD, List.getElem?_eq_getElem hj]
 rfl
def FpL (w : World) (g : Nat) (A : Option Addr) (m c : Nat) (ds : List Int) (kind ep seq : Nat) (gk : Nat) (iv bv : Value) (W : World) : Prop :=
 (gk = 2 ∧ iv = .int .i64 0 ∧ bv = .slice (some ⟨g, 0, none⟩) 8 512 ∧ FpI w g ([112, 101, 97, 116] ++ [(kind : Int), 0, 0, 0]) A m c ds kind ep seq W) ∨
 (gk = 1 ∧ iv = .int .i64 1 ∧ bv = .slice (some ⟨g, 0, none⟩) 16 512 ∧ FpI w g ([112, 101, 97, 116] ++ [(kind : Int), 0, 0, 0] ++ beL ep 8) A m c ds kind ep seq W) ∨
 (gk = 0 ∧ iv = .int .i64 2 ∧ bv = .slice (some ⟨g, 0, none⟩) 24 512 ∧ FpI w g ([112, 101, 97, 116] ++ [(kind : Int), 0, 0, 0] ++ beL ep 8 ++ beL seq 8) A m c ds kind ep seq W)
set_option maxRecDepth 100000 in
set_option maxHeartbeats 4000000 in
theorem fr_put (kind ep seq : Nat) (hk : kind < 256) (hep : ep ≤ 1099511627776) (hseq : seq ≤ 1099511627776) {A : Option Addr} {m c : Nat} {ds : List Int} (hs : Src w 1 (.slice A m c) m (bV ds)) (hm : m ≤ 480) (hd : ∀ z ∈ ds, 0 ≤ z ∧ z < 256) :
  Calls Tryz.prog 268 #[.agg (fmC kind ep seq A m c).toArray] w (FpPost w kind ep seq ds) := by
 have hdl : ds.length = m := by obtain ⟨_, _, _, hl, _⟩ := hs; rw [bV_len] at hl; omega
 have hA : 0 < m → ∀ a, A = some a → a.block < w.heap.size := fun hm0 a ha => by
  obtain ⟨A', c', e, hl, hc⟩ := hs
  injection e with e
  subst e
  obtain ⟨b, off, e2, hlt, _⟩ := hc hm0
  rw [ha] at e2
  injection e2 with e2
  rw [e2]
  exact hlt
 have HA := yH hA
 have HS := yH hs
 have HD := yH (And.intro hdl hd)
 have e1 : ¬ (kind : Int) < 0 := by omega
 have e2 : ¬ (255 : Int) < (kind : Int) := by omega
 have e3 : ¬ (32768 : Int) < (m : Int) := by omega
 have hkb : 0 ≤ (kind : Int) ∧ (kind : Int) < 256 := by omega
 have hepb : 0 ≤ (ep : Int) ∧ (ep : Int) ≤ 1099511627776 := by omega
 have hsqb : 0 ≤ (seq : Int) ∧ (seq : Int) ≤ 1099511627776 := by omega
 clear hs hdl hd hA
 go_enter Tryz.func268, Tryz.ntmps268
 go_upto_region 5 with (first
  | (refine wpl_box rfl 359 (.tmp 0) rfl _ rfl ?_; intro w1 hk1 hg hz; have K := yH hk1; have L1 := yH (bl_n (Below.refl _ _) hg); have S1 := yH (HS.out.below L1.out); have c0 := hk1.cell (i := 0) (v := .int .i64 (kind : Int)) rfl; have c1 := hk1.cell (i := 1) (v := .int .i64 (ep : Int)) rfl; have c2 := hk1.cell (i := 2) (v := .int .i64 (seq : Int)) rfl; have c3 := hk1.cell (i := 3) (v := .slice A m c) rfl; clear hk1 hg hz)
  | (go_at_call 332; (with_reducible show Calls _ _ #[.int .i64 (ep : Int)] _ _); refine (fr_may ep hep _).mono ?_; rintro e w2 ⟨rfl, rfl⟩)
  | (go_at_call 332; (with_reducible show Calls _ _ #[.int .i64 (seq : Int)] _ _); refine (fr_may seq hseq _).mono ?_; rintro e w2 ⟨rfl, rfl⟩))
 go_upto_region 6 with (first
  | (go_at_call 315; refine (fr_sectors m hm _).mono ?_; rintro e w2 ⟨rfl, rfl⟩)
  | (refine mk_bytes rfl (.tmp 38) (.tmp 38) (by rfl) w.heap.size 512 512 512 (by rfl) (by rfl) (by rfl) (by rfl) (by omega) L1.out.size ?_; intro w2 ho hg; have O2 := yH (own_full ho); have L2 := yH (bl_n (Below.refl w1.heap.size w1) hg); clear ho hg; simp only [Act.put, yA, yB, yC]))
 have F2 := yH (show FpI w w1.heap.size [] A m c ds kind ep seq w2 from ⟨O2.out, K.out.below L2.out K.out.lt, S1.out.below L2.out, below_chain L1.out L2.out, K.out.lt⟩)
 generalize w1.heap.size = g at *
 clear O2 L2 K S1 L1 c0 c1 c2 c3 e1 e2 e3
 go_upto_region 7 with (refine wpl_app_peat0 rfl (.tmp 41) (by rfl) g (by rfl) F2.out.out ?_; intro w3 hb hg hz; have F3 := yH (F2.out.turn HA.out hb (tch_g hg)); clear hb hg hz; simp only [Act.put, yA, yB, yC])
 have c0 : w3.cell? ⟨w.heap.size, 0, none⟩ = some (.int .i64 (kind : Int)) := F3.out.box.cell rfl
 go_upto_region 8 with (refine wpl_app_spare rfl (.tmp 43) (.tmp 47) (by rfl) g 4 512 (frZ [112, 101, 97, 116]) (by rfl) (F3.out.out.alloc _) _ 4 [Value.int .u8 (kind : Int), .int .u8 0, .int .u8 0, .int .u8 0] (by rfl) (src_four (Blk.made _ _ _) 4) (by omega) (by intro v hv; simp at hv; rcases hv with rfl | rfl <;> rfl) (by omega) (by rw [frZ_len _ (by simp)]; omega) ?_; intro w4 hb hg hz; have F4 := yH ((F3.out.alloc ((Below.refl _ w3).alloc (Nat.le_refl _) _)).turn (P' := [112, 101, 97, 116] ++ [(kind : Int), 0, 0, 0]) HA.out (by rw [← frZ_app _ _ (by simp)]; exact hb) (tch_g hg)); clear hb hg hz; simp only [Act.put, yA, yB, yC])
 have d1 : w4.cell? ⟨w.heap.size, 1, none⟩ = some (.int .i64 (ep : Int)) := F4.out.box.cell rfl
 have d2 : w4.cell? ⟨w.heap.size, 2, none⟩ = some (.int .i64 (seq : Int)) := F4.out.box.cell rfl
 go_upto_region 9 with fail
 go_loopg [54, 5] 2 (fun gk iv bv W => FpL w g A m c ds kind ep seq gk iv bv W)
 case atStart => exact .inl ⟨rfl, rfl, rfl, F4.out⟩
 case round =>
  clear d1 d2 c0 F2 F3 F4
  rcases hrel with ⟨rfl, rfl, rfl, hF⟩ | ⟨rfl, rfl, rfl, hF⟩ | ⟨rfl, rfl, rfl, hF⟩
  ·have F := yH hF
   clear hF
   have ix := idx2 (ep : Int) (seq : Int) 0 0 (ep : Int) rfl (by omega) rfl
   go_wp2_with (go_at_call 333; refine (fr_num F.out HA.out 8 8 16 8 (by simp) rfl (by omega) rfl (by omega) ep (by omega)).mono ?_; rintro e w5 ⟨rfl, hF⟩; have F5 := yH hF; clear hF)
   go_roundg 1
   case measure => omega
   case rel => exact .inr (.inl ⟨rfl, rfl, rfl, F5.out⟩)
  ·have F := yH hF
   clear hF
   have ix := idx2 (ep : Int) (seq : Int) 1 1 (seq : Int) rfl (by omega) rfl
   go_wp2_with (go_at_call 333; refine (fr_num F.out HA.out 16 8 24 8 (by simp [beL_len]) rfl (by omega) rfl (by omega) seq (by omega)).mono ?_; rintro e w5 ⟨rfl, hF⟩; have F5 := yH hF; clear hF)
   go_roundg 0
   case measure => omega
   case rel => exact .inr (.inr ⟨rfl, rfl, rfl, F5.out⟩)
  ·have F := yH hF
   clear hF
   have d3 : wr.cell? ⟨w.heap.size, 3, none⟩ = some (.slice A m c) := F.out.box.cell rfl
   go_upto_region 14 with (go_at_call 333; refine (fr_num F.out HA.out 24 4 28 4 (by simp [beL_len]) rfl (by omega) rfl (by omega) m (by omega)).mono ?_; rintro e w5 ⟨rfl, hF⟩; have F5 := yH hF; clear hF)
   have d5 : w5.cell? ⟨w.heap.size, 3, none⟩ = some (.slice A m c) := F5.out.box.cell rfl
   obtain ⟨P, hP⟩ : ∃ P, P = [112, 101, 97, 116] ++ [(kind : Int), 0, 0, 0] ++ beL ep 8 ++ beL seq 8 ++ beL m 4 := ⟨_, rfl⟩
   rw [← hP] at F5
   have HPl := yH (show P.length = 28 by rw [hP]; simp [beL_len])
   have HPb := yH (show P ++ ds = bodyL kind ep seq ds by rw [hP, ← HD.out.1]; rfl)
   clear hP F d3
   go_upto_region 15 with (refine wpl_app_bytes rfl (.tmp 68) (.tmp 70) (by rfl) g 28 512 (frZ P) (by rfl) F5.out.out A m c (bV ds) (by rfl) F5.out.src (bV_one _) (by omega) (by rw [frZ_len _ (by rw [HPl.out]; omega)]; omega) ?_; intro w6 hb hT; have F6 := yH (F5.out.turn (P' := P ++ ds) HA.out (by rw [← frZ_app _ _ (by rw [HPl.out, HD.out.1]; omega), HPl.out, HD.out.1]; exact hb) hT); clear hb hT; simp only [Act.put, yA, yB, yC])
   rw [HPb.out] at F6
   obtain ⟨x, hx⟩ : ∃ x : Nat, x = (crcB (bodyL kind ep seq ds)).toNat := ⟨_, rfl⟩
   have HX := yH hx
   have hxb : 0 ≤ (x : Int) ∧ (x : Int) < 4294967296 := by have := (crcB (bodyL kind ep seq ds)).isLt; omega
   have hwv : wv (crcB (bodyL kind ep seq ds)) = (x : Int) := by rw [hx]; rfl
   have HC := yH (fun W (hW : FpI w g (bodyL kind ep seq ds) A m c ds kind ep seq W) => by
    have := crcsum_any (bodyL kind ep seq ds) (some ⟨g, 0, none⟩) (28 + m) 512 W (by have h1 := frZ_rd hW.out; rw [bodyL_len, HD.out.1] at h1; exact h1) (bodyL_bytes hk HD.out.2) (by omega)
    rw [hwv] at this
    exact this)
   clear hx hwv
   go_wp2_with (first
    | (go_at_call 333; refine (fr_num F7.out HA.out (28 + m) 4 (28 + m + 4) 4 (by rw [bodyL_len, HD.out.1]) rfl (by omega) rfl (by omega) x (by omega)).mono ?_; rintro e w8 ⟨rfl, hF⟩; have F8 := yH hF; clear hF)
    | (go_at_call 334; refine (HC.out _ F6.out).mono ?_; rintro e w7 ⟨rfl, hb⟩; have F7 := yH (F6.out.alloc hb); clear hb))
   go_ret2
   exact ⟨g, rfl, by rw [frL_val]; unfold sumL; rw [← HX.out]; exact F8.out.out, by have := F8.out.ge; omega, F8.out.low⟩
end
end Go.Proofs.YtffalfacakdhkaaGreatDoor
namespace Go.Proofs.YtffalfacakdhkaaGreatDoor
open Go.RowKit Go.Maps
set_option linter.unusedVariables false
set_option linter.unusedSimpArgs false

theorem byte_inj {x y : Int} (hx : 0 ≤ x ∧ x < 256) (hy : 0 ≤ y ∧ y < 256) (h : UInt8.ofNat x.toNat = UInt8.ofNat y.toNat) : x = y := by
 have := congrArg UInt8.toNat h
 simp only [UInt8.toNat_ofNat'] at this
 omega
theorem bytes_inj : ∀ (xs ys : List Int), (∀ z ∈ xs, 0 ≤ z ∧ z < 256) → (∀ z ∈ ys, 0 ≤ z ∧ z < 256) → xs.map (fun n => UInt8.ofNat n.toNat) = ys.map (fun n => UInt8.ofNat n.toNat) → xs = ys
 | [], [], _, _, _ => rfl
 | [], y :: ys, _, _, h => by simp at h
 | x :: xs, [], _, _, h => by simp at h
 | x :: xs, y :: ys, hx, hy, h => by
  simp only [List.map_cons, List.cons.injEq] at h
  rw [byte_inj (hx x (by simp)) (hy y (by simp)) h.1, bytes_inj xs ys (fun z hz => hx z (by simp [hz])) (fun z hz => hy z (by simp [hz])) h.2]
theorem conv_rd {w : World} {b off n c : Nat} {xs : List Int} (h : RdI .u8 w (some ⟨b, off, none⟩) n xs) :
  (convert 25 9 (.slice (some ⟨b, off, none⟩) n c)).run Tryz.prog w = .ok (.string ⟨(xs.map fun n => UInt8.ofNat n.toNat).toArray⟩) w := by
 refine run_convert_bytes_arg (P := Tryz.prog) w 25 5 Tryz.underlying25 Tryz.underlying5 b off n c xs h.1 (fun i hi => ?_) 9 Tryz.underlying9
 obtain ⟨b2, o2, e, _, hc⟩ := h.2 (by omega)
 simp only [Option.some.injEq, Addr.mk.injEq] at e
 obtain ⟨rfl, rfl, _⟩ := e
 exact hc i hi
theorem equal_any (xs ys : List Int) (A B : Option Addr) (n m c d : Nat) (w : World) (hr : RdI .u8 w A n xs) (hs : RdI .u8 w B m ys) (hn : 0 < n) (hm : 0 < m) (hX : ∀ z ∈ xs, 0 ≤ z ∧ z < 256) (hY : ∀ z ∈ ys, 0 ≤ z ∧ z < 256) :
  Calls Tryz.prog 288 #[.slice A n c, .slice B m d] w fun e w' => e = .returned (.bool (decide (xs = ys))) ∧ w' = w := by
 obtain ⟨b1, o1, rfl, _, _⟩ := hr.2 hn
 obtain ⟨b2, o2, rfl, _, _⟩ := hs.2 hm
 have c1 := conv_rd (c := c) hr
 have c2 := conv_rd (c := d) hs
 obtain ⟨s, hs1⟩ : ∃ s : ByteArray, s = ⟨(xs.map fun n => UInt8.ofNat n.toNat).toArray⟩ := ⟨_, rfl⟩
 obtain ⟨t, ht1⟩ : ∃ t : ByteArray, t = ⟨(ys.map fun n => UInt8.ofNat n.toNat).toArray⟩ := ⟨_, rfl⟩
 rw [← hs1] at c1
 rw [← ht1] at c2
 have hst : (s.toList == t.toList) = decide (xs = ys) := by
  rw [ByteArray.toList_eq, ByteArray.toList_eq, hs1, ht1]
  by_cases e : xs = ys
  ·subst e
   simp
  ·rw [decide_eq_false e]
   apply beq_eq_false_iff_ne.2
   intro h
   exact e (bytes_inj xs ys hX hY (by simpa using h))
 have HST := yH hst
 clear hst hs1 ht1
 go_enter Tryz.func288, Tryz.ntmps288
 go_wp2
 go_ret
 refine ⟨?_, rfl⟩
 rw [← HST.out]
 rfl
theorem saidL_ltA : ∀ (b : List Int) (a : Nat), (∀ z ∈ b, 0 ≤ z ∧ z < 256) → b.foldl (fun n z => 256 * n + z.toNat) a < (a + 1) * 256 ^ b.length
 | [], a, _ => by simp
 | z :: b, a, h => by
  have h1 := saidL_ltA b (256 * a + z.toNat) fun y hy => h y (by simp [hy])
  have h2 := h z (by simp)
  have h3 : (256 * a + z.toNat + 1) * 256 ^ b.length ≤ (256 * (a + 1)) * 256 ^ b.length := Nat.mul_le_mul_right _ (by omega)
  rw [List.foldl_cons, List.length_cons, Nat.pow_succ]
  have h4 : (a + 1) * (256 ^ b.length * 256) = (256 * (a + 1)) * 256 ^ b.length := by rw [Nat.mul_comm (256 ^ b.length) 256, ← Nat.mul_assoc, Nat.mul_comm (a + 1) 256]
  omega
theorem saidL_lt (b : List Int) (h : ∀ z ∈ b, 0 ≤ z ∧ z < 256) : saidL b < 256 ^ b.length := by
 have := saidL_ltA b 0 h
 unfold saidL
 omega
theorem or_saidL (x z : Nat) (hx : x < 72057594037927936) (hz : z < 256) : bits .or .u64 ((x : Int) * 256) (z : Int) = ((256 * x + z : Nat) : Int) := by
 have e : bits .or .u64 ((x : Int) * 256) (z : Int) = IntKind.u64.wrap (((BitVec.ofInt 64 ((x : Int) * 256)) ||| (BitVec.ofInt 64 (z : Int))).toNat : Int) := rfl
 rw [e, show ((x : Int) * 256) = ((256 * x : Nat) : Int) by omega, BitVec.ofInt_natCast, BitVec.ofInt_natCast, BitVec.toNat_or, BitVec.toNat_ofNat, BitVec.toNat_ofNat, Nat.mod_eq_of_lt (by omega), Nat.mod_eq_of_lt (by omega)]
 have := Nat.two_pow_add_eq_or_of_lt (i := 8) (b := z) hz x
 rw [show (256 : Nat) = 2 ^ 8 from rfl, ← this, IntKind.wrap_u64]
 omega
def SaidLI (b : List Int) (n : Nat) (w : World) (m : Nat) (iv nv : Value) (wr : World) : Prop :=
 ∃ i : Nat, iv = .int .i64 ((i : Nat) : Int) ∧ i ≤ n ∧ i + m ≤ n ∧ n ≤ i + m ∧ nv = .int .u64 ((saidL (b.take i) : Nat) : Int) ∧ wr = w
set_option maxHeartbeats 1600000 in
theorem fr_said (b : List Int) (A : Option Addr) (n c : Nat) (w : World) (hr : RdI .u8 w A n b) (hB : ∀ z ∈ b, 0 ≤ z ∧ z < 256) (hn : n ≤ 8) :
  Calls Tryz.prog 314 #[.slice A n c] w fun e w' => e = .returned (.int .u64 ((saidL b : Nat) : Int)) ∧ w' = w := by
 have HR := yH hr
 have HBy := yH hB
 have hbl := yH hr.1
 clear hr hB
 go_enter Tryz.func314, Tryz.ntmps314
 go_wp2
 go_loopg [7, 2, 4] n (fun m iv nv _ wr => SaidLI b n w m iv nv wr)
 case atStart => exact ⟨0, rfl, by omega, by omega, by omega, rfl, rfl⟩
 case round =>
  obtain ⟨i, rfl, hi, k1, k2, rfl, rfl⟩ := hrel
  by_cases hlt : i < n
  ·have hltI : (i : Int) < (n : Int) := by omega
   obtain ⟨bb, off, hAe, hbb, hce⟩ := HR.out.2 (by omega)
   subst hAe
   have cI := hce i hlt
   have bI := HBy.out (b.getD i 0) (by rw [List.getD_eq_getElem?_getD, List.getElem?_eq_getElem (by have := hbl.out; omega)]; exact List.getElem_mem _)
   have hlen : i < b.length := by have := hbl.out; omega
   have hs : saidL (b.take (i + 1)) = 256 * saidL (b.take i) + (b.getD i 0).toNat := by
    rw [List.take_add_one, List.getElem?_eq_getElem hlen, Option.toList_some, saidL_snoc, List.getD_eq_getElem?_getD, List.getElem?_eq_getElem hlen]
    rfl
   have HSt := yH hs
   have hx := saidL_lt (b.take i) (fun z hz => HBy.out z (List.mem_of_mem_take hz))
   have hx2 : saidL (b.take i) < 72057594037927936 := by
    have : 256 ^ (b.take i).length ≤ 256 ^ 7 := Nat.pow_le_pow_right (by omega) (by rw [List.length_take]; omega)
    omega
   clear hce hs hx hlen
   generalize b.getD i 0 = z at *
   obtain ⟨z, rfl⟩ : ∃ y : Nat, z = y := ⟨z.toNat, by omega⟩
   rw [Int.toNat_natCast] at HSt
   generalize saidL (b.take i) = x at *
   have eO := or_saidL x z hx2 (by omega)
   have eW : IntKind.u64.wrap ((x : Int) * 256) = (x : Int) * 256 := by rw [IntKind.wrap_u64]; omega
   go_wp2
   go_roundg (gk - 1)
   case measure => omega
   case rel => exact ⟨i + 1, by go_num, by omega, by omega, by omega, by rw [HSt.out]; go_num, rfl⟩
  ·have hltI : ¬ (i : Int) < (n : Int) := by omega
   obtain rfl : i = n := by omega
   go_wp2
   go_ret
   refine ⟨?_, rfl⟩
   rw [List.take_of_length_le (by have := hbl.out; omega)]
   rfl
/-- b begins with p. -/
theorem bprefix_any (xs ys : List Int) (A B : Option Addr) (n m c d : Nat) (w : World) (hr : RdI .u8 w A n xs) (hs : RdI .u8 w B m ys) (hm : 0 < m) (hnm : m ≤ n) (hc : n ≤ c) (hX : ∀ z ∈ xs, 0 ≤ z ∧ z < 256) (hY : ∀ z ∈ ys, 0 ≤ z ∧ z < 256) (hn : n ≤ 1000000) :
  Calls Tryz.prog 316 #[.slice A n c, .slice B m d] w fun e w' => e = .returned (.bool (decide (xs.take m = ys))) ∧ w' = w := by
 have HE := yH (equal_any (xs.take m) ys A B m m c d w (rd_take hr m hnm) hs hm hm (fun z hz => hX z (List.mem_of_mem_take hz)) hY)
 have h1 : (m : Int) ≤ (n : Int) := by omega
 have h2 : (m : Int) ≤ (c : Int) := by omega
 obtain ⟨b1, o1, rfl, _, _⟩ := hr.2 (by omega)
 clear hr hs hX hY
 go_enter Tryz.func316, Tryz.ntmps316
 go_wp2_with (go_at_call 288; refine HE.out.mono ?_; rintro e w1 ⟨rfl, rfl⟩)
 go_ret
 exact ⟨rfl, rfl⟩
end Go.Proofs.YtffalfacakdhkaaGreatDoor
namespace Go.Proofs.YtffalfacakdhkaaGreatDoor
open Go.RowKit Go.Maps
set_option linter.unusedVariables false
set_option linter.unusedSimpArgs false
theorem results_blk_tmp2 {P : Program} {w : World} {fn : Func} {p u v : Tmp} {ty : TypeId} (h : fn.results = #[.cell p ty, .tmp u, .tmp v]) (tmps : Array Value) (g : Nat) (hp : tmps.getD p undef = .pointer (some ⟨g, 0, none⟩)) (t : TypeId) (cs : Array Value) (hb : Blk w g t cs)
  (d : TypeDesc) (hu : P.underlying ty = some d) (hd : d.isRow = true) (m : Nat) (hi : (P.info? ty).map (·.size) = some m) (hm : cs.size = m) :
  (results fn tmps).run P w = .ok (.tuple #[.agg cs, tmps.getD u undef, tmps.getD v undef]) w := by
 have hl := run_loadVar_mid (P := P) w g 0 ty cs.toList d hb.range hu hd (by rw [hi]; simp [hm])
 have hp' : tmps[p]?.getD undef = .pointer (some ⟨g, 0, none⟩) := by simpa using hp
 simp only [Array.toArray_toList] at hl
 simp [results, h, hp', asAddr, hl]
theorem rd_full {W : World} {g n : Nat} {ys : List Int} (hB : Blk W g 5 (bV ys).toArray) (hl : ys.length = n) : RdI .u8 W (some ⟨g, 0, none⟩) n ys := by
 refine ⟨hl, fun _ => ⟨g, 0, rfl, hB.lt, fun j hj => ?_⟩⟩
 rw [Nat.zero_add]
 refine hB.cell ?_
 rw [List.getElem?_toArray, bV, List.getElem?_map, List.getElem?_eq_getElem (by omega), List.getD_eq_getElem?_getD, List.getElem?_eq_getElem (by omega)]
 rfl
theorem rd_sub {w : World} {b off n p q : Nat} {xs : List Int} (h : RdI .u8 w (some ⟨b, off, none⟩) n xs) (hq : p + q ≤ n) : RdI .u8 w (some ⟨b, off + p, none⟩) q ((xs.drop p).take q) := by
 have h1 := h.drop8 (k := p) (by omega)
 rcases Nat.eq_zero_or_pos q with rfl | hq0
 ·exact ⟨by simp, fun h => by omega⟩
 ·exact rd_take h1 q (by omega)
theorem src_rd {w : World} {b off n c : Nat} {xs : List Int} (h : RdI .u8 w (some ⟨b, off, none⟩) n xs) : Src w 1 (.slice (some ⟨b, off, none⟩) n c) n (bV xs) := by
 refine ⟨_, c, rfl, by rw [bV_len, h.1, Nat.mul_one], fun hn => ?_⟩
 obtain ⟨b2, o2, e, hlt, hc⟩ := h.2 hn
 injection e with e
 injection e with e1 e2
 subst e1 e2
 refine ⟨b, off, rfl, hlt, fun j y hy => ?_⟩
 have hj : j < xs.length := by have := (List.getElem?_eq_some_iff.1 hy).1; rwa [bV_len] at this
 have := hc j (by have := h.1; omega)
 rw [this]
 unfold bV at hy
 rw [List.getElem?_map, List.getElem?_eq_getElem hj] at hy
 rw [List.getD_eq_getElem?_getD, List.getElem?_eq_getElem hj]
 simpa using hy
def subL (xs : List Int) (p q : Nat) : List Int := (xs.drop p).take q
theorem frL_len (kind ep sq : Nat) (ds : List Int) (h : ds.length ≤ 480) : (frL kind ep sq ds).length = 512 := by
 unfold frL sumL
 rw [List.length_append, List.length_append, bodyL_len, beL_len, List.length_replicate]
 omega
theorem frL_bytes {kind ep sq : Nat} {ds : List Int} (hk : kind < 256) (hd : ∀ z ∈ ds, 0 ≤ z ∧ z < 256) : ∀ z ∈ frL kind ep sq ds, 0 ≤ z ∧ z < 256 := by
 intro z hz
 unfold frL sumL at hz
 simp only [List.mem_append] at hz
 rcases hz with (hz | hz) | hz
 ·exact bodyL_bytes hk hd z hz
 ·exact beL_bytes _ _ z hz
 ·have := List.eq_of_mem_replicate hz
  omega
def fstV : Value → Value | .agg cs => cs.getD 0 default | v => v
def sndV : Value → Value | .agg cs => cs.getD 1 default | v => v
theorem cell_below {w w' : World} {a : Addr} {v : Value} (h : w.cell? a = some v) (hb : Below w.heap.size w w') : w'.cell? a = some v := by
 rw [← h]
 refine World.cell?_of_block (hb.block _ ?_)
 rcases Nat.lt_or_ge a.block w.heap.size with hl | hl
 ·exact hl
 ·have : w.heap[a.block]? = none := Array.getElem?_eq_none hl
  simp [World.cell?, this] at h
theorem fstV_two (a b : Value) : fstV (.agg #[a, b]) = a := rfl
theorem sndV_two (a b : Value) : sndV (.agg #[a, b]) = b := rfl
theorem src_tch {w w' : World} {T : List Nat} {sz m c : Nat} {A : Option Addr} {ys : List Value} (h : Src w sz (.slice A m c) m ys) (hT : Tch T w w') (hne : 0 < m → ∀ a, A = some a → a.block ∉ T) : Src w' sz (.slice A m c) m ys := by
 obtain ⟨A', c', e, hl, hc⟩ := h
 refine ⟨A', c', e, hl, fun hm => ?_⟩
 injection e with e
 subst e
 obtain ⟨b, off, e2, hlt, hcell⟩ := hc hm
 subst e2
 have hs : w'.heap[b]? = w.heap[b]? := hT.block b hlt (hne hm _ rfl)
 exact ⟨b, off, rfl, Nat.lt_of_lt_of_le hlt hT.size, fun j y hy => (World.cell?_of_block (a := ⟨b, off + j, none⟩) hs).trans (hcell j y hy)⟩
theorem own_ge {w : World} {base : Nat} {e : TypeId} {n c : Nat} {A : Option Addr} {xs : List Value} (h : w.ownsRow base e 1 (.slice A n c) n xs) (a : Addr) (ha : A = some a) : base ≤ a.block := by
 rcases h.2 with ⟨e1, e2⟩ | ⟨g', cap, cur, e1, h1, hg, h2, _, hs, ht⟩
 ·injection e1 with e1
  rw [e1] at ha
  cases ha
 ·injection e1 with e1
  rw [e1] at ha
  injection ha with ha
  subst ha
  exact h1
def FgR (w1 : World) (ys : List Value) (kind ep sq n : Nat) (v : Value) (w' : World) : Prop := ∃ A c f, v = .agg #[.slice A n c, .pointer (some ⟨f, 0, none⟩)] ∧ Src w' 1 (.slice A n c) n ys ∧ Blk w' f 359 (fmC kind ep sq A n c).toArray ∧ Below w1.heap.size w1 w' ∧ w1.heap.size ≤ f ∧ n ≤ c ∧ (∀ a, A = some a → w1.heap.size ≤ a.block)
end Go.Proofs.YtffalfacakdhkaaGreatDoor
namespace Go.Proofs.YtffalfacakdhkaaGreatDoor
open Go.RowKit Go.Maps
set_option linter.unusedVariables false
set_option linter.unusedSimpArgs false
structure Hd where
 geo : Geo
 (num pages root snap : Int)
def hdC (h : Hd) : List Value := geC h.geo ++ [.int .i64 h.num, .int .i64 h.pages, .int .i64 h.root, .int .i64 h.snap]
theorem hdC_info (h : Hd) : (Tryz.prog.info? 123).map (·.size) = some (hdC h).length := by show _ = some 9; kernel_rfl
theorem hdC_one (h : Hd) : ∀ v ∈ hdC h, v.oneCell' = true := by intro v hv; simp [hdC, geC] at hv; rcases hv with rfl | rfl | rfl | rfl | rfl | rfl | rfl | rfl | rfl <;> rfl
def HdOk (h : Hd) : Prop := RightP h.geo ∧ (0 ≤ h.num ∧ h.num ≤ 1099511627776) ∧ (1 ≤ h.pages ∧ h.pages ≤ pagesI h.geo) ∧ (0 ≤ h.root ∧ h.root < h.pages) ∧ (1 ≤ h.snap ∧ h.snap ≤ 1073741824)
theorem RightP.geB {g : Geo} (h : RightP g) : GeB g := by
 have h1 := h.1
 unfold FieldsP at h1
 unfold GeB rI
 omega
/-- A head's cells in a block. -/
def HdS (b : Nat) (h : Hd) (w' : World) : Prop := w'.rangeAt b 0 (geC h.geo) ∧ w'.cell? ⟨b, 5, none⟩ = some (.int .i64 h.num) ∧ w'.cell? ⟨b, 6, none⟩ = some (.int .i64 h.pages) ∧ w'.cell? ⟨b, 7, none⟩ = some (.int .i64 h.root) ∧ w'.cell? ⟨b, 8, none⟩ = some (.int .i64 h.snap)
theorem HdS.of {b : Nat} {h : Hd} {w' : World} (hb : Blk w' b 123 (hdC h).toArray) : HdS b h w' :=
 ⟨hb.part 0 (geC h.geo) rfl, hb.cell (i := 5) rfl, hb.cell (i := 6) rfl, hb.cell (i := 7) rfl, hb.cell (i := 8) rfl⟩
section
variable {w : World}
theorem hd_within (n a b : Int) (h : a ≤ n ∧ n ≤ b) (w : World) : Calls Tryz.prog 398 #[.int .i64 n, .int .i64 a, .int .i64 b] w fun e w' => e = .returned (.bool true) ∧ w' = w := by
 have h1 := h.1
 have h2 := h.2
 clear h
 go_enter Tryz.func398, Tryz.ntmps398
 go_wp2
 go_ret
 exact ⟨rfl, rfl⟩
set_option maxRecDepth 100000 in
set_option maxHeartbeats 1000000 in
theorem hd_right {h : Hd} (hh : HdOk h) : Calls Tryz.prog 339 #[.agg (hdC h).toArray] w fun e w' => e = .returned (.bool true) ∧ Below w.heap.size w w' := by
 have HG := yH hh.1.geB
 have HP := yH (show pagesG h.geo = pagesI h.geo by unfold pagesG; rw [if_pos hh.1])
 have W1 := yH (hd_within h.pages 1 (pagesI h.geo) hh.2.2.1)
 have W2 := yH (hd_within h.root 0 (h.pages - 1) (by have := hh.2.2.2.1; omega))
 have W3 := yH (hd_within h.snap 1 1073741824 hh.2.2.2.2)
 have hpg := hh.1.1.pages
 have hpb : 1 ≤ h.pages ∧ h.pages ≤ 66700 := by have := hh.2.2.1; omega
 clear hh hpg
 go_enter Tryz.func339, Tryz.ntmps339
 go_upto_region 2 with (refine wpl_box rfl 123 (.tmp 0) rfl _ rfl ?_; intro w1 hk hg hz; have K := yH hk; have L := yH (bl_n (Below.refl _ _) hg); clear hk hg hz)
 refine wp_region_qs (fun _ w' => w'.rangeAt w.heap.size 0 (geC h.geo) ∧ w'.cell? ⟨w.heap.size, 5, none⟩ = some (.int .i64 h.num) ∧ w'.cell? ⟨w.heap.size, 6, none⟩ = some (.int .i64 h.pages) ∧ w'.cell? ⟨w.heap.size, 7, none⟩ = some (.int .i64 h.root) ∧ w'.cell? ⟨w.heap.size, 8, none⟩ = some (.int .i64 h.snap)) [(0, some 3), (1, some 4), (2, some 3), (3, some 4), (4, some 3), (5, none), (6, none), (7, some 3), (8, some 3), (9, some 4), (10, some 3), (11, some 4), (12, some 4), (13, some 3), (14, none), (15, some 4), (16, some 3), (17, some 3), (18, some 4), (19, some 3), (20, none), (21, some 4), (22, some 4)] (by kernel_rfl) (by kernel_rfl) (by kernel_rfl) (by kernel_rfl) (by kernel_rfl) (fun _ _ _ _ _ h => h) (HdS.of K.out.drew) ?_
 simp only [yD, yE, yF, yG]
 (repeat (first | ((refine qs_row (by rfl) 66 (.tmp 7) (by rfl) w.heap.size 0 (by rfl) (geC h.geo) _ (fun j w' _ h2 h => h.1) Tryz.underlying66 rfl (geC_info _) ?_); simp only [Act.put, yA, yB, yC]) | (refine qs_mid (v := ?_) (by rfl) ?_ ?_; rotate_left 1; (· (intro j w' hj1 hj2 hS; go_simp; (try (simp only [↓IntWalk.iteOmega]; go_simp)); (try simp (disch := omega) only [IntWalk.i64_in]); try with_reducible rfl)); simp only [Act.put, yA, yB, yC]) | (refine qs_skip (by rfl) ?_; simp only [Act.put, yA, yB, yC])))
 refine qs_act ?_
 go_wp2_with (go_at_call 277; refine (pagesG_any HG.out).mono ?_; rewrite [HP.out]; rintro e w3 ⟨rfl, hb⟩; have L3 := yH (below_chain L.out.drew hb); have K3 := yH (K.out.drew.below hb K.out.lt); clear hb)
 refine ⟨HdS.of K3.out, ?_⟩
 refine qs_act ?_
 go_wp2_with (go_at_call 398; refine (W1.out _).mono ?_; rintro e w4 ⟨rfl, rfl⟩)
 refine ⟨HdS.of K3.out, ?_⟩
 (repeat (first | (refine qs_mid (v := ?_) (by rfl) ?_ ?_; rotate_left 1; (· (intro j w' hj1 hj2 hS; go_simp; (try (simp only [↓IntWalk.iteOmega]; go_simp)); (try simp (disch := omega) only [IntWalk.i64_in]); try with_reducible rfl)); simp only [Act.put, yA, yB, yC]) | (refine qs_skip (by rfl) ?_; simp only [Act.put, yA, yB, yC])))
 refine qs_act ?_
 go_wp2_with (go_at_call 398; refine (W2.out _).mono ?_; rintro e w4 ⟨rfl, rfl⟩)
 refine ⟨HdS.of K3.out, ?_⟩
 (repeat (first | (refine qs_mid (v := ?_) (by rfl) ?_ ?_; rotate_left 1; (· (intro j w' hj1 hj2 hS; go_simp; (try (simp only [↓IntWalk.iteOmega]; go_simp)); (try simp (disch := omega) only [IntWalk.i64_in]); try with_reducible rfl)); simp only [Act.put, yA, yB, yC]) | (refine qs_skip (by rfl) ?_; simp only [Act.put, yA, yB, yC])))
 refine qs_act ?_
 go_wp2_with (go_at_call 398; refine (W3.out _).mono ?_; rintro e w4 ⟨rfl, rfl⟩)
 refine ⟨HdS.of K3.out, ?_⟩
 (repeat (first | (refine qs_mid (v := ?_) (by rfl) ?_ ?_; rotate_left 1; (· (intro j w' hj1 hj2 hS; go_simp; (try (simp only [↓IntWalk.iteOmega]; go_simp)); (try simp (disch := omega) only [IntWalk.i64_in]); try with_reducible rfl)); simp only [Act.put, yA, yB, yC]) | (refine qs_skip (by rfl) ?_; simp only [Act.put, yA, yB, yC])))
 refine qs_nil ?_
 go_wp2_with fail
 go_ret
 exact ⟨rfl, L3.out⟩
def nbP (b : Nat) : List Value := [.pointer (some ⟨b, 0, none⟩), .pointer (some ⟨b, 1, none⟩), .pointer (some ⟨b, 2, none⟩), .pointer (some ⟨b, 3, none⟩), .pointer (some ⟨b, 4, none⟩), .pointer (some ⟨b, 6, none⟩), .pointer (some ⟨b, 7, none⟩), .pointer (some ⟨b, 8, none⟩)]
theorem nbP_info (b : Nat) : (Tryz.prog.info? 478).map (·.size) = some (nbP b).length := by show _ = some 8; kernel_rfl
set_option maxRecDepth 100000 in
set_option maxHeartbeats 1000000 in
theorem hd_numbers (b : Nat) (w : World) : Calls Tryz.prog 340 #[.pointer (some ⟨b, 0, none⟩)] w fun e w' => e = .returned (.agg (nbP b).toArray) ∧ Below w.heap.size w w' := by
 go_enter Tryz.func340, Tryz.ntmps340
 go_upto_region 2 with (refine wpl_alloc rfl 478 (by rfl) Tryz.zeroValue478 8 (by rfl) ?_; intro w1 cs1 hk hc hg hz; have K := yH hk; have C1 := yH hc; have L := yH (bl_n (Below.refl _ _) hg); clear hk hc hg hz; simp only [Act.put, yA, yB, yC])
 refine wp_region_qs (fun _ w' => True) [(0, some 0), (1, some 0), (2, some 0), (3, some 0), (4, some 0), (5, some 0), (6, some 0), (7, some 0), (8, some 0), (9, some 0), (10, some 0), (11, some 0), (12, some 0), (13, some 0), (14, some 0), (15, some 0), (16, some 0), (17, some 0), (18, some 0), (19, some 0), (20, some 0), (21, some 0), (22, some 0), (23, some 0), (24, some 0), (25, none)] (by kernel_rfl) (by kernel_rfl) (by kernel_rfl) (by kernel_rfl) (by kernel_rfl) (fun _ _ _ _ _ h => h) trivial ?_
 simp only [yD, yE, yF, yG]
 (repeat (first | (refine qs_mid (v := ?_) (by rfl) ?_ ?_; rotate_left 1; (· (intro j w' hj1 hj2 hS; go_simp; (try (simp only [↓IntWalk.iteOmega]; go_simp)); (try simp (disch := omega) only [IntWalk.i64_in]); try with_reducible rfl)); simp only [Act.put, yA, yB, yC]) | (refine qs_skip (by rfl) ?_; simp only [Act.put, yA, yB, yC])))
 refine qs_act ?_
 go_wp2_with (refine wpl_over rfl 478 (.tmp 2) (.tmp 31) (by rfl) w.heap.size (nbP b) (by rfl) (by rfl) _ cs1 K.out.drew (nbP_info b) (by rw [C1.out]; rfl) (by simp [nbP, Value.oneCell']) ?_; intro w2 hb hg hz; have B2 := yH hb; have L2 := yH (show Below w.heap.size w w2 from L.out.drew.grown hg L.out.size (fun k hk => by injection hk with hk; omega)); clear hb hg hz)
 refine ⟨trivial, ?_⟩
 refine qs_nil ?_
 go_wp2_with fail
 (try simp only [Exit.inBlock, Exit.then])
 refine bodyPost_ret (results_blk rfl _ w.heap.size rfl _ _ B2.out _ Tryz.underlying478 rfl 8 (nbP_info b) rfl) rfl ?_
 exact ⟨rfl, L2.out⟩
end
end Go.Proofs.YtffalfacakdhkaaGreatDoor
