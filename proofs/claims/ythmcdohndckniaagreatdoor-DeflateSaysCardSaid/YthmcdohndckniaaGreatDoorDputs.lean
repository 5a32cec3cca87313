/-
  deflate.made.
  bitio.Writer.Align.
  deflate's writer: a symbol and the bits behind it.
  deflate's writer: pieces, and the end behind them.
  deflate.of: the code that weights want.
-/
import Derived.Test.YthmcdohndckniaaGreatDoorHuffCodes
import Derived.Test.YthmcdohndckniaaGreatDoorWriter
import Derived.Test.YthmcdohndckniaaGreatDoorDPlains
import Derived.Test.YthmcdohndckniaaGreatDoorDeflA
import Derived.Test.YthmcdohndckniaaGreatDoorLengths
import Derived.Test.YthmcdohndckniaaGreatDoorStable
namespace Go.Proofs.YthmcdohndckniaaGreatDoor
open Go.RowKit
set_option linter.unusedVariables false

theorem infoCode : (Tryz.prog.info? 84).map (·.size) = some 2 := by kernel_rfl
def DMadePost (zs : List Int) (A : Option Addr) (n cap : Nat) (w : World) (ev : Ending) (w' : World) : Prop :=
  ∃ A2 c2, ev = .returned (.agg #[.slice A n cap, .slice A2 n c2]) ∧ w'.ownsRow w.heap.size 3 1 (.slice A2 n c2) n ((codesOf zs).map (Value.int .i64)) ∧ Below w.heap.size w w'
theorem dmade_any (zs : List Int) (A : Option Addr) (n cap : Nat) (w : World) (hr : RdI .i64 w A n zs) (hn : n ≤ 1000000) (hok : countsOk zs = true) :
    Calls Tryz.prog 29 #[.slice A n cap] w (DMadePost zs A n cap w) := by
  have HR := Lib.hid hr
  have HO := Lib.hid hok
  clear hr hok
  have L1 := Lib.hid ((Below.refl w.heap.size w).alloc (Nat.le_refl _) (.cells #[.slice none 0 0, .slice none 0 0] 84))
  have K1 := Lib.hid (Blk.made w 84 #[.slice none 0 0, .slice none 0 0])
  go_enter Tryz.func29, Tryz.ntmps29
  go_wp2_with fail
  refine (codes_any zs A n cap _ (HR.out.below L1.out) (by omega)).mono ?_
  rintro ev w2 hp
  rcases hp with ⟨hbad, _⟩ | ⟨_, A2, c2, rfl, ho, hb⟩
  · rw [HO.out] at hbad; cases hbad
  have K2 := K1.out.below hb K1.out.lt
  have HK2 := Lib.hid K2
  have f0 := K2.free 0
  have f1 := K2.free 1
  have d0 := K2.cell (i := 0) rfl
  have d1 := K2.cell (i := 1) rfl
  have O2 := Lib.hid ho
  have B2 := Lib.hid hb
  clear ho hb K2
  go_wp2
  have K4 := ((HK2.out.put 0 (.slice A n cap)).put 1 (.slice A2 n c2))
  refine bodyPost_ret (results_blk rfl _ w.heap.size rfl _ _ K4 _ Tryz.underlying84 rfl 2 infoCode rfl) rfl ?_
  have g1 := grown_put w2 ⟨w.heap.size, 0, none⟩ (.slice A n cap)
  have g2 := grown_put (w2.setCell ⟨w.heap.size, 0, none⟩ (.slice A n cap)) ⟨w.heap.size, 1, none⟩ (.slice A2 n c2)
  have hne : ∀ (b : Nat), (Value.slice A2 n c2).ownBlock = some b → w.heap.size < b := fun b hb => by
    have := (O2.out.lt b hb).1
    simp at this
    omega
  have hap : (Value.slice A2 n c2).ownBlock = none ∨ (Value.slice A2 n c2).ownBlock ≠ some w.heap.size := by
    right
    intro hb
    have := hne _ hb
    omega
  have o4 := (O2.out.kept g1 hap).kept g2 hap
  refine ⟨A2, c2, rfl, ⟨o4.1, o4.2.imp id ?_⟩, ?_⟩
  · rintro ⟨g', cap', cur, e, a1, a2⟩
    exact ⟨g', cap', cur, e, by simp at a1; omega, a2⟩
  · have b1 : Below w.heap.size w w2 := L1.out.trans (B2.out.mono (by simp))
    exact bl_g (bl_g b1 g1 (Nat.le_refl _)) g2 (Nat.le_refl _)
end Go.Proofs.YthmcdohndckniaaGreatDoor
namespace Go.Proofs.YthmcdohndckniaaGreatDoor
open Go.RowKit
set_option linter.unusedVariables false

theorem bitsL_zero : ∀ k, bitsL 0 k = List.replicate k 0
  | 0 => rfl
  | k + 1 => by simp only [bitsL, List.replicate_succ]; rw [show 0 / 2 = 0 from rfl, bitsL_zero k]; rfl
def WAlignPost (bt : List Int) (g : Nat) (own : Option Nat) (w : World) (ev : Ending) (w' : World) : Prop :=
  ev = .returned (.tuple #[]) ∧ ∃ own', WrOk w' g own' (bt ++ List.replicate ((8 - bt.length % 8) % 8) 0) ∧ WrStep w w' g own own'
theorem walign_any (bt : List Int) (g : Nat) (own : Option Nat) (w : World) (h : WrOk w g own bt) (hl : bt.length ≤ 1000000000) :
    Calls Tryz.prog 24 #[.pointer (some ⟨g, 0, none⟩)] w (WAlignPost bt g own w) := by
  have H := Lib.hid h
  obtain ⟨sv, bs, rest, n, ⟨hb, ho, hB⟩, hown, hn, hrest, hlen, hnum, h01⟩ := h
  have c3 := hb.cell (i := 3) (v := .int .i64 (n : Int)) rfl
  have HLen := Lib.hid hlen
  clear hb ho hB hown hrest hlen hnum h01
  by_cases h0 : n = 0
  · subst h0
    have e : (8 - bt.length % 8) % 8 = 0 := by have := HLen.out; omega
    go_enter Tryz.func24, Tryz.ntmps24
    go_wp2
    go_end0
    refine ⟨rfl, own, ?_, WrStep.refl _ _ _⟩
    rw [e]
    simpa using H.out
  · have h0I : (0 : Int) < (n : Int) := by omega
    have d0 : decide (0 < n) = true := by simp; omega
    have e : (8 - bt.length % 8) % 8 = 8 - n := by have := HLen.out; omega
    have e8 := Lib.hid (show (8 : Int) - (n : Int) = ((8 - n : Nat) : Int) by omega)
    have HE := Lib.hid e
    clear e
    go_enter Tryz.func24, Tryz.ntmps24
    go_wp2_with fail
    rw [e8.out]
    refine (put_any bt g own 0 (8 - n) w H.out (by omega) (by omega) hl).mono ?_
    rintro ev w2 ⟨rfl, own', hw, hst⟩
    rw [bitsL_zero] at hw
    have HW := Lib.hid hw
    have HS := Lib.hid hst
    clear hw hst
    go_wp2
    go_end0
    exact ⟨rfl, own', by rw [HE.out]; exact HW.out, HS.out⟩
end Go.Proofs.YthmcdohndckniaaGreatDoor
namespace Go.Proofs.YthmcdohndckniaaGreatDoor
open Go.RowKit
set_option linter.unusedVariables false

theorem WrOk.bit01 {w : World} {g : Nat} {own : Option Nat} {bt : List Int} (h : WrOk w g own bt) : Bit01 bt := by
  obtain ⟨_, _, _, _, _, _, _, _, _, _, h⟩ := h
  exact h
theorem WrOk.blk {w : World} {g : Nat} {own : Option Nat} {bt : List Int} (h : WrOk w g own bt) : ∃ cs, Blk w g 123 cs := by
  obtain ⟨_, _, _, _, ⟨h, _⟩, _⟩ := h
  exact ⟨_, h⟩
theorem ty_apart {w : World} {r : Nat} {t u : TypeId} {cs : Array Value} {base n size : Nat} {v : Value} {xs : List Value} (hb : Blk w r t cs) (h : w.ownsRow base u size v n xs) (hne : u ≠ t) : v.ownBlock = none ∨ v.ownBlock ≠ some r := by
  rcases h.2 with ⟨rfl, _⟩ | ⟨g', cap, cur, rfl, _, hg, _⟩
  · exact .inl rfl
  · refine .inr (fun he => ?_)
    simp only [Value.ownBlock, Option.some.injEq] at he
    subst he
    unfold Blk at hb
    rw [hg] at hb
    injection hb with hb
    injection hb with _ ht
    exact hne ht
/-- A row stays where a writer writes. -/
theorem WrStep.keeps {w w' : World} {g : Nat} {own own' : Option Nat} {bt : List Int} {base n size : Nat} {t : TypeId} {v : Value} {xs : List Value} (hst : WrStep w w' g own own') (hw : WrOk w g own bt) (h : w.ownsRow base t size v n xs) (h1 : t ≠ 123) (h2 : t ≠ 5) : w'.ownsRow base t size v n xs := by
  obtain ⟨v2, bs, rest, k, ⟨hb, ho, _⟩, hown, _⟩ := hw
  have a1 := ty_apart hb h h1
  have a2 := own_apart h ho h2
  rw [hown] at a2
  refine ⟨h.1, h.2.imp id ?_⟩
  rintro ⟨g', cap, cur, rfl, h1, h2, h3⟩
  refine ⟨g', cap, cur, rfl, h1, (hst.block g' (Blk.lt (t := t) (cs := cur) h2) ?_ ?_).trans h2, h3⟩
  · rintro rfl
    rcases a1 with a | a
    · simp [Value.ownBlock] at a
    · exact a rfl
  · intro e
    rcases a2 with a | a
    · simp [Value.ownBlock] at a
    · exact a e
/-- .. and a writer where another row turns. -/
theorem WrOk.grown {w w' : World} {g : Nat} {own : Option Nat} {bt : List Int} {base n size : Nat} {t : TypeId} {v : Value} {xs : List Value} (hw : WrOk w g own bt) (h : w.ownsRow base t size v n xs) (hg : w.grownBy w' v.ownBlock) (h1 : t ≠ 123) (h2 : t ≠ 5) : WrOk w' g own bt := by
  obtain ⟨v2, bs, rest, k, ⟨hb, ho, hB⟩, h4⟩ := hw
  refine ⟨v2, bs, rest, k, ⟨hb.grown hg (fun e => ?_), ho.kept hg (own_apart ho h (fun e => h2 e.symm)), hB⟩, h4⟩
  rcases ty_apart hb h h1 with a | a
  · rw [a] at e; cases e
  · exact a e.symm
/-- A code: its lengths and its codes, each a row. -/
def CodeOk (w : World) (zs : List Int) (A A2 : Option Addr) (n c c2 : Nat) : Prop :=
  w.ownsRow 0 3 1 (.slice A n c) n (zs.map (Value.int .i64)) ∧ w.ownsRow 0 3 1 (.slice A2 n c2) n ((codesOf zs).map (Value.int .i64))
theorem CodeOk.step {w w' : World} {g : Nat} {own own' : Option Nat} {bt zs : List Int} {A A2 : Option Addr} {n c c2 : Nat} (h : CodeOk w zs A A2 n c c2) (hw : WrOk w g own bt) (hst : WrStep w w' g own own') : CodeOk w' zs A A2 n c c2 :=
  ⟨hst.keeps hw h.1 (by decide) (by decide), hst.keeps hw h.2 (by decide) (by decide)⟩
theorem CodeOk.below {w w' : World} {zs : List Int} {A A2 : Option Addr} {n c c2 : Nat} (h : CodeOk w zs A A2 n c c2) (hb : Below w.heap.size w w') : CodeOk w' zs A A2 n c c2 := ⟨own_below h.1 hb, own_below h.2 hb⟩
theorem CodeOk.len {w : World} {zs : List Int} {A A2 : Option Addr} {n c c2 : Nat} (h : CodeOk w zs A A2 n c c2) : zs.length = n := by simpa using h.1.1
/-- A block stays where a writer writes. -/
theorem WrStep.blk {w w' : World} {g k : Nat} {own own' : Option Nat} {bt : List Int} {t : TypeId} {cs : Array Value} (hst : WrStep w w' g own own') (hw : WrOk w g own bt) (h : Blk w k t cs) (h1 : t ≠ 123) (h2 : t ≠ 5) : Blk w' k t cs := by
  obtain ⟨v2, bs, rest, n, ⟨hb, ho, _⟩, hown, _⟩ := hw
  refine (hst.block k h.lt ?_ ?_).trans h
  · rintro rfl
    unfold Blk at hb h
    rw [h] at hb
    injection hb with e
    injection e with _ e
    exact h1 e
  · intro e
    rcases ty_apart h ho (fun e => h2 e.symm) with a | a
    · rw [hown] at a; rw [a] at e; cases e
    · rw [hown] at a; exact a e.symm
theorem code_nat {zs : List Int} (hok : countsOk zs = true) {s : Nat} (hs : s < zs.length) : ∃ c z : Nat, codeAt zs s = (c : Int) ∧ zs.getD s 0 = (z : Int) ∧ z ≤ 15 ∧ c < 32768 ∧ litB zs s = codeBits c z := by
  have h15 := okLen_of hok hs
  obtain ⟨z, hz⟩ : ∃ z : Nat, zs.getD s 0 = (z : Int) := ⟨(zs.getD s 0).toNat, by omega⟩
  by_cases h0 : 0 < z
  · obtain ⟨h1, h2⟩ := code_lt hok hs h0 (by omega) hz
    have h3 : (2 : Int) ^ z ≤ 2 ^ 15 := by
      have := Nat.pow_le_pow_right (n := 2) (by omega) (show z ≤ 15 by omega)
      exact_mod_cast this
    exact ⟨(codeAt zs s).toNat, z, by omega, hz, by omega, by omega, by unfold litB; rw [hz]; rfl⟩
  · have hz0 : z = 0 := by omega
    subst hz0
    refine ⟨0, 0, ?_, hz, by omega, by omega, by unfold litB; rw [hz]; rfl⟩
    unfold codeAt
    rw [if_neg (by rw [hz]; simp)]
    rfl
theorem codes_get {zs : List Int} {i : Nat} (h : i < zs.length) : (codesOf zs).getD i 0 = codeAt zs i := by simp [codesOf, h]

theorem ints_get {zs : List Int} {i : Nat} (h : i < zs.length) : (zs.map (Value.int .i64))[i]? = some (.int .i64 (zs.getD i 0)) := by
  rw [List.getElem?_map, List.getElem?_eq_getElem h]
  simp [h]
def DPutPost (bt : List Int) (g : Nat) (own : Option Nat) (X : List Int) (w : World) (e : Ending) (w' : World) : Prop :=
  e = .returned (.tuple #[]) ∧ ∃ own', WrOk w' g own' (bt ++ X) ∧ WrStep w w' g own own'
def DputI (bt : List Int) (g : Nat) (own : Option Nat) (c n : Nat) (w : World) (iv : Value) (wr : World) : Prop :=
  ∃ (k : Nat) (b1 : List Int) (own' : Option Nat), k ≤ n ∧ iv = .int .i64 ((k : Int) - 1) ∧ b1 ++ codeBits c k = bt ++ codeBits c n ∧ WrOk wr g own' b1 ∧ WrStep w wr g own own'

set_option maxHeartbeats 1600000 in
theorem dput_any (bt : List Int) (g : Nat) (own : Option Nat) (zs : List Int) (A A2 : Option Addr) (n c c2 s x k : Nat) (w : World) (h : WrOk w g own bt) (hc : CodeOk w zs A A2 n c c2) (hok : countsOk zs = true) (hs : s < n) (hn : n ≤ 1000000) (hx : x < 4294967296) (hk : k ≤ 32) (hl : bt.length ≤ 900000000) :
    Calls Tryz.prog 35 #[.agg #[.pointer (some ⟨g, 0, none⟩)], .agg #[.slice A n c, .slice A2 n c2], .agg #[.int .i64 (s : Int), .int .i64 (x : Int), .int .i64 (k : Int)]] w (DPutPost bt g own (litB zs s ++ bitsL x k) w) := by
  have H := Lib.hid h
  have HC := Lib.hid hc
  obtain ⟨cn, zn, hcn, hzn, hz15, hc15, hlit⟩ := code_nat hok (s := s) (by have := hc.len; omega)
  have HLit := Lib.hid hlit
  obtain ⟨gA, capA, hvA, _, hltA⟩ := hc.1.form (by omega)
  obtain ⟨gB, capB, hvB, _, hltB⟩ := hc.2.form (by omega)
  injection hvA with hA _ hcA
  injection hvB with hB _ hcB
  subst hA hB hcA hcB
  have hzl := hc.len
  have cA := hc.1.cellAt s (by omega)
  have cB := hc.2.cellAt s (by omega)
  rw [ints_get (by omega), hzn] at cA
  rw [ints_get (by unfold codesOf; simp; omega), codes_get (by omega), hcn] at cB
  have HCN := Lib.hid hcn
  clear hlit hcn hzn h hc hok
  obtain ⟨wB, hwB⟩ : ∃ wB, wB = ((w.alloc (.cells #[.pointer (some ⟨g, 0, none⟩)] 70)).alloc (.cells #[.slice (some ⟨gA, 0, none⟩) n c, .slice (some ⟨gB, 0, none⟩) n c2] 84)).alloc (.cells #[.int .i64 (s : Int), .int .i64 (x : Int), .int .i64 (k : Int)] 87) := ⟨_, rfl⟩
  have L := Lib.hid (show Below w.heap.size w wB by rw [hwB]; exact (((Below.refl _ _).alloc (Nat.le_refl _) _).alloc (by simp) _).alloc (by simp; omega) _)
  have K1 := Lib.hid (show Blk wB w.heap.size 70 #[.pointer (some ⟨g, 0, none⟩)] by rw [hwB]; exact ((Blk.made _ _ _).alloc _).alloc _)
  have K2 := Lib.hid (show Blk wB (w.heap.size + 1) 84 #[.slice (some ⟨gA, 0, none⟩) n c, .slice (some ⟨gB, 0, none⟩) n c2] by rw [hwB]; exact (Blk.made_at _ _ _ (by simp)).alloc _)
  have K3 := Lib.hid (show Blk wB (w.heap.size + 2) 87 #[.int .i64 (s : Int), .int .i64 (x : Int), .int .i64 (k : Int)] by rw [hwB]; exact Blk.made_at _ _ _ (by simp))
  have cA' := keepCell L.out hltA cA
  have cB' := keepCell L.out hltB cB
  have k1 := K1.out.cell (i := 0) rfl
  have k20 := K2.out.cell (i := 0) rfl
  have k21 := K2.out.cell (i := 1) rfl
  have k30 := K3.out.cell (i := 0) rfl
  have HB := Lib.hid (H.out.below L.out)
  have HCB := Lib.hid (HC.out.below L.out)
  clear cA cB
  have dA := cA'
  have d20 := k20
  have d30 := k30
  rw [hwB] at dA d20 d30
  go_enter Tryz.func35, Tryz.ntmps35
  go_wp2
  rw [← hwB]
  clear hwB dA d20 d30
  go_loopw [7] (DputI bt g own cn zn wB) (fun i _ => (intOf i + 1).toNat)
  case atStart => exact ⟨zn, bt, own, Nat.le_refl _, rfl, rfl, HB.out, WrStep.refl _ _ _⟩
  case round =>
    obtain ⟨j, b1, own1, hj, rfl, hb, ho, hst⟩ := hrel
    have hlen : b1.length ≤ 900000100 := by
      have := congrArg List.length hb
      simp only [List.length_append, codeBits_len] at this
      omega
    have HBe := Lib.hid hb
    have HO := Lib.hid ho
    have HSt := Lib.hid hst
    have m1 := (hst.blk HB.out K1.out (by decide) (by decide)).cell (i := 0) rfl
    have m20 := (hst.blk HB.out K2.out (by decide) (by decide)).cell (i := 0) rfl
    have m21 := (hst.blk HB.out K2.out (by decide) (by decide)).cell (i := 1) rfl
    have m30 := (hst.blk HB.out K3.out (by decide) (by decide)).cell (i := 0) rfl
    have m31 := (hst.blk HB.out K3.out (by decide) (by decide)).cell (i := 1) rfl
    have m32 := (hst.blk HB.out K3.out (by decide) (by decide)).cell (i := 2) rfl
    have hCB := HCB.out.step HB.out hst
    have cB2 : wr.cell? ⟨gB, s, none⟩ = some (.int .i64 (cn : Int)) := by
      have h1 := hCB.2.cellAt s (by omega)
      rw [ints_get (by unfold codesOf; simp; omega), codes_get (by omega), HCN.out] at h1
      exact h1
    clear hb ho hst hCB
    by_cases h0 : j = 0
    · subst h0
      have hb1 : b1 = bt ++ codeBits cn zn := by have := HBe.out; simpa [codeBits] using this
      go_wp2_with fail
      refine (put_any b1 g own1 x k wr HO.out hx hk (by omega)).mono ?_
      rintro ev w1 ⟨rfl, own2, ho2, hst2⟩
      go_wp2
      go_end0
      refine ⟨rfl, own2, ?_, ((WrStep.of_below L.out).trans HSt.out).trans hst2⟩
      rw [HLit.out, ← List.append_assoc, ← hb1]
      exact ho2
    · obtain ⟨i, rfl⟩ : ∃ i, j = i + 1 := ⟨j - 1, by omega⟩
      have e1 : ((i + 1 : Nat) : Int) - 1 = i := by omega
      rw [e1]
      have HV := Lib.hid (show (cn : Int) / 2 ^ i % 4294967296 = ((cn / 2 ^ i : Nat) : Int) by
        have e3 : (cn : Int) / 2 ^ i = ((cn / 2 ^ i : Nat) : Int) := by push_cast; rfl
        have hle : cn / 2 ^ i ≤ cn := Nat.div_le_self _ _
        rw [e3]
        generalize cn / 2 ^ i = y at *
        omega)
      have hvl : cn / 2 ^ i < 4294967296 := by have := Nat.div_le_self cn (2 ^ i); omega
      go_wp2
      refine wp_region_qs (fun _ w' => w'.cell? ⟨w.heap.size, 0, none⟩ = some (.pointer (some ⟨g, 0, none⟩)) ∧ w'.cell? ⟨w.heap.size + 1, 1, none⟩ = some (.slice (some ⟨gB, 0, none⟩) n c2) ∧ w'.cell? ⟨w.heap.size + 2, 0, none⟩ = some (.int .i64 (s : Int)) ∧ w'.cell? ⟨gB, s, none⟩ = some (.int .i64 (cn : Int)))
        [(0, some 1), (1, some 0), (2, some 1), (3, some 1), (4, some 1), (5, some 1), (6, some 1), (7, some 1), (8, some 1), (9, some 1), (10, some 0), (11, none)] (by kernel_rfl) (by kernel_rfl) (by kernel_rfl) (by kernel_rfl) (by kernel_rfl) (fun _ _ _ _ _ h => h) ⟨m1, m21, m30, cB2⟩ ?_
      simp only [List.map_cons, List.map_nil, List.getD_cons_succ, List.getD_cons_zero]
      (repeat (first | (refine qs_now (v := ?_) (by rfl) ?_ ?_; rotate_left 1; (· (intro w' hS; go_simp; (try (simp only [↓IntWalk.iteOmega]; go_simp)); (try simp (disch := omega) only [IntWalk.i64_in]); try with_reducible rfl)); simp only [Act.put, List.setIfInBounds_toArray, List.set_cons_zero, List.set_cons_succ]) | (refine qs_run (v := ?_) (by rfl) ?_ ?_; rotate_left 1; (· (intro j w' hS; go_simp; (try (simp only [↓IntWalk.iteOmega]; go_simp)); (try simp (disch := omega) only [IntWalk.i64_in]); try with_reducible rfl)); simp only [Act.put, List.setIfInBounds_toArray, List.set_cons_zero, List.set_cons_succ]) | (refine qs_mid (v := ?_) (by rfl) ?_ ?_; rotate_left 1; (· (intro j w' hj1 hj2 hS; go_simp; (try (simp only [↓IntWalk.iteOmega]; go_simp)); (try simp (disch := omega) only [IntWalk.i64_in]); try with_reducible rfl)); simp only [Act.put, List.setIfInBounds_toArray, List.set_cons_zero, List.set_cons_succ]) | (refine qs_skip (by rfl) ?_; simp only [Act.put, List.setIfInBounds_toArray, List.set_cons_zero, List.set_cons_succ])))
      refine qs_act ?_
      go_wp2_with fail
      rw [HV.out]
      have HNx := Lib.hid (show b1 ++ bitsL (cn / 2 ^ i) 1 ++ codeBits cn i = bt ++ codeBits cn zn by
        rw [← HBe.out]
        simp [codeBits, bitsL])
      have HOd : WrOk wr.drew g own1 b1 := HO.out.below (Below.refl _ _).drew
      refine (put_any b1 g own1 (cn / 2 ^ i) 1 wr.drew HOd hvl (by omega) (by omega)).mono ?_
      rintro ev w1 ⟨rfl, own2, ho2, hst2⟩
      have HO2 := Lib.hid ho2
      have HS2 := Lib.hid ((HSt.out.trans (WrStep.of_below (Below.refl _ _).drew)).trans hst2)
      have hC2 := HCB.out.step HB.out HS2.out
      have hcell : w1.cell? ⟨gB, s, none⟩ = some (.int .i64 (cn : Int)) := by
        have h1 := hC2.2.cellAt s (by omega)
        rw [ints_get (by unfold codesOf; simp; omega), codes_get (by omega), HCN.out] at h1
        exact h1
      have n1 := (HS2.out.blk HB.out K1.out (by decide) (by decide)).cell (i := 0) rfl
      have n21 := (HS2.out.blk HB.out K2.out (by decide) (by decide)).cell (i := 1) rfl
      have n30 := (HS2.out.blk HB.out K3.out (by decide) (by decide)).cell (i := 0) rfl
      clear ho2 hst2 hC2
      go_wp2
      refine ⟨⟨n1, n21, n30, hcell⟩, ?_⟩
      refine qs_nil ?_
      go_wp2
      go_roundw
      case rel => exact ⟨i, b1 ++ bitsL (cn / 2 ^ i) 1, own2, by omega, by go_num, HNx.out, HO2.out, HS2.out⟩
      case measure => simp [intOf]
end Go.Proofs.YthmcdohndckniaaGreatDoor
namespace Go.Proofs.YthmcdohndckniaaGreatDoor
open Go.RowKit
set_option linter.unusedVariables false

def pcell (p : Pc) : List Value := [.int .u8 (p.b : Int), .int .i64 (p.n : Int), .int .i64 (p.d : Int)]
theorem pcells_len (l : List Pc) : (l.flatMap pcell).length = l.length * 3 := by
  induction l with
  | nil => rfl
  | cons p l ih => simp [pcell] at ih ⊢; omega
theorem pcells_get : ∀ (l : List Pc) (i : Nat) (p : Pc), l[i]? = some p → (l.flatMap pcell)[i * 3]? = some (.int .u8 (p.b : Int)) ∧ (l.flatMap pcell)[i * 3 + 1]? = some (.int .i64 (p.n : Int)) ∧ (l.flatMap pcell)[i * 3 + 2]? = some (.int .i64 (p.d : Int))
  | [], i, p, h => by simp at h
  | q :: l, 0, p, h => by
    obtain rfl : q = p := by simpa using h
    exact ⟨rfl, rfl, rfl⟩
  | q :: l, i + 1, p, h => by
    have ih := pcells_get l i p (by simpa using h)
    rw [show (i + 1) * 3 = i * 3 + 3 by omega]
    exact ih
/-- A row of pieces. -/
def PcRow (w : World) (A : Option Addr) (n c : Nat) (l : List Pc) : Prop := w.ownsRow 0 81 3 (.slice A n c) n (l.flatMap pcell)
theorem PcRow.len {w : World} {A : Option Addr} {n c : Nat} {l : List Pc} (h : PcRow w A n c l) : l.length = n := by
  have h1 := h.1
  rw [pcells_len] at h1
  omega
theorem PcRow.below {w w' : World} {A : Option Addr} {n c : Nat} {l : List Pc} (h : PcRow w A n c l) (hb : Below w.heap.size w w') : PcRow w' A n c l := own_below h hb
theorem PcRow.step {w w' : World} {g : Nat} {own own' : Option Nat} {bt : List Int} {A : Option Addr} {n c : Nat} {l : List Pc} (h : PcRow w A n c l) (hw : WrOk w g own bt) (hst : WrStep w w' g own own') : PcRow w' A n c l := hst.keeps hw h (by decide) (by decide)
theorem PcRow.at_ {w : World} {A : Option Addr} {n c : Nat} {l : List Pc} (h : PcRow w A n c l) {i : Nat} (hi : i < n) :
    ∃ gp p, A = some ⟨gp, 0, none⟩ ∧ gp < w.heap.size ∧ l[i]? = some p ∧ w.cell? ⟨gp, i * 3, none⟩ = some (.int .u8 (p.b : Int)) ∧ w.cell? ⟨gp, i * 3 + 1, none⟩ = some (.int .i64 (p.n : Int)) ∧ w.cell? ⟨gp, i * 3 + 2, none⟩ = some (.int .i64 (p.d : Int)) := by
  have hl := h.len
  obtain ⟨gp, cap, hv, _, hlt⟩ := World.ownsRow.form h (by omega)
  injection hv with hA _ hc
  subst hA hc
  have hp : l[i]? = some l[i] := List.getElem?_eq_getElem (by omega)
  obtain ⟨q1, q2, q3⟩ := pcells_get l i _ hp
  have k := World.ownsRow.cells h (g := gp) rfl
  refine ⟨gp, _, rfl, hlt, hp, ?_, ?_, ?_⟩
  · have := k _ _ q1; rwa [Addr.add_mid, Nat.zero_add] at this
  · have := k _ _ q2; rwa [Addr.add_mid, Nat.zero_add] at this
  · have := k _ _ q3; rwa [Addr.add_mid, Nat.zero_add] at this
/-- A piece that can be written. -/
def Fine (p : Pc) : Prop := (p.n = 0 ∧ p.b < 256) ∨ (3 ≤ p.n ∧ p.n ≤ 258 ∧ 1 ≤ p.d ∧ p.d ≤ 32768)
theorem fine_of : ∀ (l : List Pc) (out : List Int), OkAll out l → ∀ p ∈ l, Fine p
  | [], _, _, p, hp => by cases hp
  | q :: l, out, h, p, hp => by
    rcases List.mem_cons.1 hp with rfl | hp
    · rcases h.1 with ⟨a, b, c⟩ | ⟨a, b, c, d, e, f⟩
      · exact .inl ⟨a, c⟩
      · exact .inr ⟨b, c, d, e⟩
    · exact fine_of l _ h.2 p hp
theorem litB_le {zs : List Int} (hok : countsOk zs = true) {s : Nat} (hs : s < zs.length) : (litB zs s).length ≤ 15 := by
  have := okLen_of hok hs
  unfold litB
  rw [codeBits_len]
  omega
theorem lbits_bd : ∀ k, k < 29 → (lbits.getD k 0).toNat ≤ 5 := by decide
theorem dbits_bd : ∀ k, k < 30 → (dbits.getD k 0).toNat ≤ 13 := by decide
theorem pcB_le {zs ds : List Int} (hz : countsOk zs = true) (hd : countsOk ds = true) (lz : 286 ≤ zs.length) (ld : 30 ≤ ds.length) {p : Pc} (hf : Fine p) : (pcB zs ds p).length ≤ 100 := by
  have k1 := lenK_le p.n
  have k2 := distK_le p.d
  unfold pcB
  split
  · have := litB_le hz (s := p.b) (by rcases hf with h | h <;> omega)
    omega
  · have h1 := litB_le hz (s := 257 + lenK p.n) (by omega)
    have h2 := litB_le hd (s := distK p.d) (by omega)
    have h3 := lbits_bd (lenK p.n) (by omega)
    have h4 := dbits_bd (distK p.d) (by omega)
    simp only [List.length_append, bitsL_len]
    omega
theorem pcsB_le {zs ds : List Int} (hz : countsOk zs = true) (hd : countsOk ds = true) (lz : 286 ≤ zs.length) (ld : 30 ≤ ds.length) : ∀ (l : List Pc), (∀ p ∈ l, Fine p) → (l.flatMap (pcB zs ds)).length ≤ 100 * l.length
  | [], _ => Nat.le_refl _
  | p :: l, h => by
    have h1 := pcB_le hz hd lz ld (h p List.mem_cons_self)
    have h2 := pcsB_le hz hd lz ld l (fun q hq => h q (List.mem_cons_of_mem _ hq))
    rw [List.flatMap_cons, List.length_append, List.length_cons]
    omega
theorem DTabs.low {w w' : World} (h : DTabs w) (hb : Below 3 w w') : DTabs w' := by
  obtain ⟨h1, h2, h3, h4⟩ := h
  exact ⟨h1.keep (hb.block _ (by omega)), h2.keep (hb.block _ (by omega)), h3.keep (hb.block _ (by omega)), by have := hb.size; omega⟩
/-- Where a writer's row lies. -/
def Lo (B : Nat) (own : Option Nat) : Prop := ∀ j, own = some j → B ≤ j
theorem WrStep.lo {w w' : World} {g B : Nat} {own own' : Option Nat} (h : WrStep w w' g own own') (ho : Lo B own) (hB : B ≤ w.heap.size) : Lo B own' := by
  intro j hj
  rcases h.own with e | ⟨i, e, hi⟩
  · rw [e] at hj; exact ho j hj
  · rw [e] at hj; injection hj with hj; omega
theorem DTabs.step {w w' : World} {g : Nat} {own own' : Option Nat} (h : DTabs w) (hst : WrStep w w' g own own') (hg : 3 ≤ g) (ho : Lo 3 own) : DTabs w' := h.low (hst.below hg ho h.2.2.2)

theorem take_getq {α : Type} {l : List α} {i : Nat} {p : α} (h : l[i]? = some p) : l.take (i + 1) = l.take i ++ [p] := by rw [List.take_add_one, h]; rfl
def PcsI (bt : List Int) (g : Nat) (own : Option Nat) (zs ds : List Int) (l : List Pc) (w : World) (k : Nat) (iv : Value) (wr : World) : Prop :=
  ∃ (i : Nat) (own' : Option Nat), iv = .int .i64 (i : Int) ∧ i + k = l.length ∧ WrOk wr g own' (bt ++ (l.take i).flatMap (pcB zs ds)) ∧ WrStep w wr g own own'
set_option maxHeartbeats 1600000 in
theorem dpieces_any (bt : List Int) (g : Nat) (own : Option Nat) (zs ds : List Int) (A1 A2 B1 B2 : Option Addr) (n1 c1 c2 n2 d1 d2 : Nat) (l : List Pc) (A : Option Addr) (n c : Nat) (w : World) (h : WrOk w g own bt) (hc1 : CodeOk w zs A1 A2 n1 c1 c2) (hc2 : CodeOk w ds B1 B2 n2 d1 d2) (hz : countsOk zs = true) (hd : countsOk ds = true)
    (hn1 : 286 ≤ n1 ∧ n1 ≤ 1000) (hn2 : 30 ≤ n2 ∧ n2 ≤ 1000) (hl : PcRow w A n c l) (hn : n ≤ 65536) (hf : ∀ p ∈ l, Fine p) (ht : DTabs w) (hg : 3 ≤ g) (ho : Lo 3 own) (hbt : bt.length ≤ 800000000) :
    Calls Tryz.prog 28 #[.agg #[.pointer (some ⟨g, 0, none⟩)], .slice A n c, .agg #[.slice A1 n1 c1, .slice A2 n1 c2], .agg #[.slice B1 n2 d1, .slice B2 n2 d2]] w (DPutPost bt g own (pcsB zs ds l) w) := by
  have H := Lib.hid h
  have HC1 := Lib.hid hc1
  have HC2 := Lib.hid hc2
  have HL := Lib.hid hl
  have HF := Lib.hid hf
  have HT := Lib.hid ht
  have HO := Lib.hid ho
  have HZ := Lib.hid hz
  have HD := Lib.hid hd
  have hzl := hc1.len
  have hdl := hc2.len
  have hln := hl.len
  obtain ⟨wB, hwB⟩ : ∃ wB, wB = ((w.alloc (.cells #[.pointer (some ⟨g, 0, none⟩)] 70)).alloc (.cells #[.slice A1 n1 c1, .slice A2 n1 c2] 84)).alloc (.cells #[.slice B1 n2 d1, .slice B2 n2 d2] 84) := ⟨_, rfl⟩
  have L := Lib.hid (show Below w.heap.size w wB by rw [hwB]; exact (((Below.refl _ _).alloc (Nat.le_refl _) _).alloc (by simp) _).alloc (by simp; omega) _)
  have K1 := Lib.hid (show Blk wB w.heap.size 70 #[.pointer (some ⟨g, 0, none⟩)] by rw [hwB]; exact ((Blk.made _ _ _).alloc _).alloc _)
  have K2 := Lib.hid (show Blk wB (w.heap.size + 1) 84 #[.slice A1 n1 c1, .slice A2 n1 c2] by rw [hwB]; exact (Blk.made_at _ _ _ (by simp)).alloc _)
  have K3 := Lib.hid (show Blk wB (w.heap.size + 2) 84 #[.slice B1 n2 d1, .slice B2 n2 d2] by rw [hwB]; exact Blk.made_at _ _ _ (by simp))
  have HB := Lib.hid (H.out.below L.out)
  clear h hc1 hc2 hl hf ht ho hz hd
  go_enter Tryz.func28, Tryz.ntmps28
  go_wp2
  rw [← hwB]
  clear hwB
  go_loopg [12] n (PcsI bt g own zs ds l wB)
  case atStart => exact ⟨0, own, rfl, by omega, by simpa using HB.out, WrStep.refl _ _ _⟩
  case round =>
    obtain ⟨i, own1, rfl, hi, hw, hst⟩ := hrel
    have m10 := (hst.blk HB.out K1.out (by decide) (by decide)).cell (i := 0) rfl
    have m20 := (hst.blk HB.out K2.out (by decide) (by decide)).cell (i := 0) rfl
    have m21 := (hst.blk HB.out K2.out (by decide) (by decide)).cell (i := 1) rfl
    have m30 := (hst.blk HB.out K3.out (by decide) (by decide)).cell (i := 0) rfl
    have m31 := (hst.blk HB.out K3.out (by decide) (by decide)).cell (i := 1) rfl
    have HW := Lib.hid hw
    have HS := Lib.hid hst
    have HLo := Lib.hid (hst.lo HO.out (by have := L.out.size; have := HT.out.2.2.2; omega))
    have HTr := Lib.hid ((HT.out.below L.out).step hst hg HO.out)
    have HLr := Lib.hid ((HL.out.below L.out).step HB.out hst)
    have HC1r := Lib.hid ((HC1.out.below L.out).step HB.out hst)
    have HC2r := Lib.hid ((HC2.out.below L.out).step HB.out hst)
    have hbl : (bt ++ (l.take i).flatMap (pcB zs ds)).length ≤ 808000000 := by
      have := pcsB_le HZ.out HD.out (by omega) (by omega) (l.take i) (fun q hq => HF.out q (List.mem_of_mem_take hq))
      rw [List.length_take] at this
      rw [List.length_append]
      omega
    clear hw hst
    by_cases hlt : i < n
    · obtain ⟨gp, p, rfl, hgp, hp, p0, p1, p2⟩ := HLr.out.at_ hlt
      have hfp := HF.out p (List.mem_of_getElem? hp)
      have HP := Lib.hid hp
      clear hp
      have hltI : (i : Int) < (n : Int) := by omega
      obtain ⟨wA, hwA⟩ : ∃ wA, wA = wr.alloc (.cells #[.int .u8 (p.b : Int), .int .i64 (p.n : Int), .int .i64 (p.d : Int)] 81) := ⟨_, rfl⟩
      have LA := Lib.hid (show Below wr.heap.size wr wA by rw [hwA]; exact (Below.refl _ _).alloc (Nat.le_refl _) _)
      have KA := Lib.hid (show Blk wA wr.heap.size 81 #[.int .u8 (p.b : Int), .int .i64 (p.n : Int), .int .i64 (p.d : Int)] by rw [hwA]; exact Blk.made _ _ _)
      have a10 := keepCell LA.out (block_lt_of_cell m10) m10
      have a20 := keepCell LA.out (block_lt_of_cell m20) m20
      have a21 := keepCell LA.out (block_lt_of_cell m21) m21
      have a30 := keepCell LA.out (block_lt_of_cell m30) m30
      have a31 := keepCell LA.out (block_lt_of_cell m31) m31
      have HWA := Lib.hid (HW.out.below LA.out)
      have HC1A := Lib.hid (HC1r.out.below LA.out)
      have HC2A := Lib.hid (HC2r.out.below LA.out)
      have SA := Lib.hid (HS.out.trans (WrStep.of_below LA.out))
      clear m10 m20 m21 m30 m31
      by_cases h0 : p.n = 0
      · have hpb : p.b < 256 := by rcases hfp with h | h <;> omega
        have q10 := a10
        have q20 := a20
        have q21 := a21
        rw [hwA] at q10 q20 q21
        rw [h0, show ((0 : Nat) : Int) = 0 from rfl] at p1 q10 q20 q21 hwA
        go_wp2_with fail
        rw [← hwA]
        clear hwA q10 q20 q21
        refine (dput_any (bt ++ (l.take i).flatMap (pcB zs ds)) g own1 zs A1 A2 n1 c1 c2 p.b 0 0 wA HWA.out HC1A.out HZ.out (by rcases hfp with h | h <;> omega) (by omega) (by omega) (by omega) (by omega)).mono ?_
        rintro ev w1 ⟨rfl, own2, ho2, hst2⟩
        have HO2 := Lib.hid ho2
        have HS2 := Lib.hid (SA.out.trans hst2)
        clear ho2 hst2
        go_wp2
        go_roundg (gk - 1)
        case measure => omega
        case rel =>
          refine ⟨i + 1, own2, by go_num, by omega, ?_, HS2.out⟩
          have e1 : pcB zs ds p = litB zs p.b ++ bitsL 0 0 := by unfold pcB; rw [if_pos h0]; simp [bitsL]
          have h2 := HO2.out
          rw [← e1, List.append_assoc] at h2
          rw [take_getq HP.out, List.flatMap_append]
          simpa using h2
      · have h0I : (((p.n : Nat) : Int) == 0) = false := by simp; omega
        have q10 := a10
        have q20 := a20
        have q21 := a21
        rw [hwA] at q10 q20 q21
        go_wp2_with fail
        rw [← hwA]
        clear hwA q10 q20 q21
        have hfb : 3 ≤ p.n ∧ p.n ≤ 258 ∧ 1 ≤ p.d ∧ p.d ≤ 32768 := by
          rcases hfp with h | h
          · exact absurd h.1 h0
          · exact h
        obtain ⟨f1, f2, f3, f4⟩ := hfb
        have c9n := KA.out.cell (i := 1) rfl
        have c9d := KA.out.cell (i := 2) rfl
        have klt := lenK_le p.n
        have dlt := distK_le p.d
        have hTA := HTr.out.below LA.out
        have HTA := Lib.hid hTA
        clear hTA
        -- the length
        refine wp_region_qs (fun _ w' => w'.cell? ⟨w.heap.size, 0, none⟩ = some (.pointer (some ⟨g, 0, none⟩)) ∧ w'.cell? ⟨w.heap.size + 1, 0, none⟩ = some (.slice A1 n1 c1) ∧ w'.cell? ⟨w.heap.size + 1, 1, none⟩ = some (.slice A2 n1 c2) ∧ w'.cell? ⟨wr.heap.size, 1, none⟩ = some (.int .i64 (p.n : Int)))
          [(0, some 1), (1, some 1), (2, some 2), (3, some 1), (4, none), (5, none)] (by kernel_rfl) (by kernel_rfl) (by kernel_rfl) (by kernel_rfl) (by kernel_rfl) (fun _ _ _ _ _ h => h) ⟨a10, a20, a21, c9n⟩ ?_
        simp only [List.map_cons, List.map_nil, List.getD_cons_succ, List.getD_cons_zero]
        (repeat (first | (refine qs_now (v := ?_) (by rfl) ?_ ?_; rotate_left 1; (· (intro w' hS; go_simp; (try (simp only [↓IntWalk.iteOmega]; go_simp)); (try simp (disch := omega) only [IntWalk.i64_in]); try with_reducible rfl)); simp only [Act.put, List.setIfInBounds_toArray, List.set_cons_zero, List.set_cons_succ]) | (refine qs_run (v := ?_) (by rfl) ?_ ?_; rotate_left 1; (· (intro j w' hS; go_simp; (try (simp only [↓IntWalk.iteOmega]; go_simp)); (try simp (disch := omega) only [IntWalk.i64_in]); try with_reducible rfl)); simp only [Act.put, List.setIfInBounds_toArray, List.set_cons_zero, List.set_cons_succ]) | (refine qs_mid (v := ?_) (by rfl) ?_ ?_; rotate_left 1; (· (intro j w' hj1 hj2 hS; go_simp; (try (simp only [↓IntWalk.iteOmega]; go_simp)); (try simp (disch := omega) only [IntWalk.i64_in]); try with_reducible rfl)); simp only [Act.put, List.setIfInBounds_toArray, List.set_cons_zero, List.set_cons_succ]) | (refine qs_skip (by rfl) ?_; simp only [Act.put, List.setIfInBounds_toArray, List.set_cons_zero, List.set_cons_succ])))
        refine qs_act ?_
        go_wp2_with fail
        have hlen := length_any p.n wA.drew (show DTabs wA.drew from HTA.out.below (Below.refl _ _).drew) f1 f2
        have hx1 : p.n - (lbases.getD (lenK p.n) 0).toNat < 4294967296 := by omega
        have hk1 : (lbits.getD (lenK p.n) 0).toNat ≤ 32 := by have := lbits_bd (lenK p.n) (by omega); omega
        have hs1 : 257 + lenK p.n < n1 := by omega
        have HLit := Lib.hid (show pcB zs ds p = litB zs (257 + lenK p.n) ++ (bitsL (p.n - (lbases.getD (lenK p.n) 0).toNat) (lbits.getD (lenK p.n) 0).toNat ++ (litB ds (distK p.d) ++ bitsL (p.d - (dbases.getD (distK p.d) 0).toNat) (dbits.getD (distK p.d) 0).toNat)) by unfold pcB; rw [if_neg h0])
        have hle1 := litB_le HZ.out (s := 257 + lenK p.n) (by omega)
        generalize 257 + lenK p.n = sL at hlen hs1 HLit hle1
        generalize p.n - (lbases.getD (lenK p.n) 0).toNat = xL at hlen hx1 HLit
        generalize (lbits.getD (lenK p.n) 0).toNat = kL at hlen hk1 HLit
        refine hlen.mono ?_
        clear hlen
        rintro ev w1 ⟨rfl, hb1⟩
        have LB := Lib.hid (show Below wA.heap.size wA w1 from (Below.refl _ _).drew.trans hb1)
        clear hb1
        have b10 := keepCell LB.out (block_lt_of_cell a10) a10
        have b20 := keepCell LB.out (block_lt_of_cell a20) a20
        have b21 := keepCell LB.out (block_lt_of_cell a21) a21
        have b9n := keepCell LB.out (block_lt_of_cell c9n) c9n
        have HW1 := Lib.hid (HWA.out.below LB.out)
        have HC11 := Lib.hid (HC1A.out.below LB.out)
        have S1 := Lib.hid (SA.out.trans (WrStep.of_below LB.out))
        go_wp2
        refine ⟨⟨b10, b20, b21, b9n⟩, ?_⟩
        refine qs_act ?_
        go_wp2_with fail
        refine (dput_any (bt ++ (l.take i).flatMap (pcB zs ds)) g own1 zs A1 A2 n1 c1 c2 sL xL kL w1 HW1.out HC11.out HZ.out hs1 (by omega) hx1 hk1 (by omega)).mono ?_
        rintro ev w2 ⟨rfl, own2, ho2, hst2⟩
        have hle2 : (litB zs sL ++ bitsL xL kL).length ≤ 100 := by rw [List.length_append, bitsL_len]; omega
        have HLo2 := Lib.hid (hst2.lo HLo.out (by have := LB.out.size; have := HTA.out.2.2.2; omega))
        have HT2 := Lib.hid ((HTA.out.below LB.out).step hst2 hg HLo.out)
        have HC22 := Lib.hid ((HC2A.out.below LB.out).step HW1.out hst2)
        have S2 := Lib.hid (S1.out.trans hst2)
        have HO2 := Lib.hid ho2
        have e10 := (S2.out.blk HB.out K1.out (by decide) (by decide)).cell (i := 0) rfl
        have e20 := (S2.out.blk HB.out K2.out (by decide) (by decide)).cell (i := 0) rfl
        have e21 := (S2.out.blk HB.out K2.out (by decide) (by decide)).cell (i := 1) rfl
        have e30 := (S2.out.blk HB.out K3.out (by decide) (by decide)).cell (i := 0) rfl
        have e31 := (S2.out.blk HB.out K3.out (by decide) (by decide)).cell (i := 1) rfl
        have k9 := hst2.blk HW1.out (KA.out.below LB.out KA.out.lt) (by decide) (by decide)
        have HK9 := Lib.hid k9
        have e9n := k9.cell (i := 1) rfl
        have e9d := k9.cell (i := 2) rfl
        clear ho2 hst2 k9
        clear a10 a20 a21 a30 a31 c9n c9d b10 b20 b21 b9n
        go_wp2
        refine ⟨⟨e10, e20, e21, e9n⟩, ?_⟩
        refine qs_nil ?_
        -- the distance
        go_wp2
        refine wp_region_qs (fun _ w' => w'.cell? ⟨w.heap.size, 0, none⟩ = some (.pointer (some ⟨g, 0, none⟩)) ∧ w'.cell? ⟨w.heap.size + 2, 0, none⟩ = some (.slice B1 n2 d1) ∧ w'.cell? ⟨w.heap.size + 2, 1, none⟩ = some (.slice B2 n2 d2) ∧ w'.cell? ⟨wr.heap.size, 2, none⟩ = some (.int .i64 (p.d : Int)))
          [(0, some 1), (1, some 1), (2, some 2), (3, some 1), (4, none), (5, none)] (by kernel_rfl) (by kernel_rfl) (by kernel_rfl) (by kernel_rfl) (by kernel_rfl) (fun _ _ _ _ _ h => h) ⟨e10, e30, e31, e9d⟩ ?_
        simp only [List.map_cons, List.map_nil, List.getD_cons_succ, List.getD_cons_zero]
        (repeat (first | (refine qs_now (v := ?_) (by rfl) ?_ ?_; rotate_left 1; (· (intro w' hS; go_simp; (try (simp only [↓IntWalk.iteOmega]; go_simp)); (try simp (disch := omega) only [IntWalk.i64_in]); try with_reducible rfl)); simp only [Act.put, List.setIfInBounds_toArray, List.set_cons_zero, List.set_cons_succ]) | (refine qs_run (v := ?_) (by rfl) ?_ ?_; rotate_left 1; (· (intro j w' hS; go_simp; (try (simp only [↓IntWalk.iteOmega]; go_simp)); (try simp (disch := omega) only [IntWalk.i64_in]); try with_reducible rfl)); simp only [Act.put, List.setIfInBounds_toArray, List.set_cons_zero, List.set_cons_succ]) | (refine qs_mid (v := ?_) (by rfl) ?_ ?_; rotate_left 1; (· (intro j w' hj1 hj2 hS; go_simp; (try (simp only [↓IntWalk.iteOmega]; go_simp)); (try simp (disch := omega) only [IntWalk.i64_in]); try with_reducible rfl)); simp only [Act.put, List.setIfInBounds_toArray, List.set_cons_zero, List.set_cons_succ]) | (refine qs_skip (by rfl) ?_; simp only [Act.put, List.setIfInBounds_toArray, List.set_cons_zero, List.set_cons_succ])))
        refine qs_act ?_
        go_wp2_with fail
        have hlen := distance_any p.d w2.drew (show DTabs w2.drew from HT2.out.below (Below.refl _ _).drew) f3 f4
        have hx2 : p.d - (dbases.getD (distK p.d) 0).toNat < 4294967296 := by omega
        have hk2 : (dbits.getD (distK p.d) 0).toNat ≤ 32 := by have := dbits_bd (distK p.d) (by omega); omega
        have hs2 : distK p.d < n2 := by omega
        generalize distK p.d = sD at hlen hs2 HLit hx2 hk2
        generalize p.d - (dbases.getD sD 0).toNat = xD at hlen hx2 HLit
        generalize (dbits.getD sD 0).toNat = kD at hlen hk2 HLit
        refine hlen.mono ?_
        clear hlen
        rintro ev w3 ⟨rfl, hb3⟩
        have L3 := Lib.hid (show Below w2.heap.size w2 w3 from (Below.refl _ _).drew.trans hb3)
        clear hb3
        have g10 := keepCell L3.out (block_lt_of_cell e10) e10
        have g30 := keepCell L3.out (block_lt_of_cell e30) e30
        have g31 := keepCell L3.out (block_lt_of_cell e31) e31
        have g9d := keepCell L3.out (block_lt_of_cell e9d) e9d
        have HW3 := Lib.hid (HO2.out.below L3.out)
        have HC23 := Lib.hid (HC22.out.below L3.out)
        have S3 := Lib.hid (S2.out.trans (WrStep.of_below L3.out))
        go_wp2
        refine ⟨⟨g10, g30, g31, g9d⟩, ?_⟩
        refine qs_act ?_
        go_wp2_with fail
        refine (dput_any (bt ++ (l.take i).flatMap (pcB zs ds) ++ (litB zs sL ++ bitsL xL kL)) g own2 ds B1 B2 n2 d1 d2 sD xD kD w3 HW3.out HC23.out HD.out hs2 (by omega) hx2 hk2 (by rw [List.length_append]; omega)).mono ?_
        rintro ev w4 ⟨rfl, own4, ho4, hst4⟩
        have S4 := Lib.hid (S3.out.trans hst4)
        have HO4 := Lib.hid ho4
        have i10 := (S4.out.blk HB.out K1.out (by decide) (by decide)).cell (i := 0) rfl
        have i30 := (S4.out.blk HB.out K3.out (by decide) (by decide)).cell (i := 0) rfl
        have i31 := (S4.out.blk HB.out K3.out (by decide) (by decide)).cell (i := 1) rfl
        have k9 := hst4.blk HW3.out (HK9.out.below L3.out HK9.out.lt) (by decide) (by decide)
        have i9d := k9.cell (i := 2) rfl
        clear ho4 hst4 k9
        go_wp2
        refine ⟨⟨i10, i30, i31, i9d⟩, ?_⟩
        refine qs_nil ?_
        go_wp2
        go_roundg (gk - 1)
        case measure => omega
        case rel =>
          refine ⟨i + 1, own4, by go_num, by omega, ?_, S4.out⟩
          have h2 := HO4.out
          rw [take_getq HP.out, List.flatMap_append, List.flatMap_singleton, HLit.out]
          simpa only [List.append_assoc] using h2
    · go_wp2_with fail
      refine (dput_any (bt ++ (l.take i).flatMap (pcB zs ds)) g own1 zs A1 A2 n1 c1 c2 256 0 0 wr HW.out HC1r.out HZ.out (by omega) (by omega) (by omega) (by omega) (by omega)).mono ?_
      rintro ev w1 ⟨rfl, own2, ho2, hst2⟩
      have HO2 := Lib.hid ho2
      have HS2 := Lib.hid (HS.out.trans hst2)
      clear ho2 hst2
      go_wp2
      go_end0
      refine ⟨rfl, own2, ?_, (WrStep.of_below L.out).trans HS2.out⟩
      have h2 := HO2.out
      rw [List.take_of_length_le (by omega), List.append_assoc] at h2
      unfold pcsB
      simpa [bitsL] using h2
end Go.Proofs.YthmcdohndckniaaGreatDoor
namespace Go.Proofs.YthmcdohndckniaaGreatDoor
open Go.RowKit
set_option linter.unusedVariables false

def OfPost (zs : List Int) (n : Nat) (w : World) (ev : Ending) (w' : World) : Prop :=
  ∃ A1 c1 A2 c2, ev = .returned (.agg #[.slice A1 n c1, .slice A2 n c2]) ∧ n ≤ c1 ∧ w'.ownsRow w.heap.size 3 1 (.slice A1 n c1) n (zs.map (Value.int .i64)) ∧ w'.ownsRow w.heap.size 3 1 (.slice A2 n c2) n ((codesOf zs).map (Value.int .i64)) ∧ Below w.heap.size w w'
theorem ownbase {w : World} {b b' : Nat} {t : TypeId} {size n : Nat} {v : Value} {xs : List Value} (h : w.ownsRow b t size v n xs) (hb : b' ≤ b) : w.ownsRow b' t size v n xs :=
  ⟨h.1, h.2.imp id fun ⟨g, cap, cur, e, a, r⟩ => ⟨g, cap, cur, e, Nat.le_trans hb a, r⟩⟩
set_option maxHeartbeats 800000 in
theorem dof_any (l : List Int) (A : Option Addr) (n cap : Nat) (most : Int) (w : World) (hr : RdI .i64 w A n l) (hok : lengthsOk l most = true) (hn : n ≤ 288) :
    Calls Tryz.prog 32 #[.slice A n cap, .int .i64 most] w (OfPost (lengthsOf l most.toNat) n w) := by
  have HR := Lib.hid hr
  have HO := Lib.hid hok
  have HC := Lib.hid (counts_of hok)
  have hms : 1 ≤ most ∧ most ≤ 15 := by
    unfold lengthsOk at hok
    simp only [Bool.and_eq_true, decide_eq_true_eq] at hok
    omega
  have hones : 2 * (onesOf l).length ≤ 1000000 := by
    have hf : l.all fairF = true := by
      unfold lengthsOk at hok
      simp only [Bool.and_eq_true, decide_eq_true_eq] at hok
      exact hok.1.2
    have := (ones_facts l hf).2.2.2
    have := hr.1
    omega
  clear hr hok
  have L1 := Lib.hid ((Below.refl w.heap.size w).alloc (Nat.le_refl _) (.cells #[.slice none 0 0, .slice none 0 0] 84))
  have K1 := Lib.hid (Blk.made w 84 #[.slice none 0 0, .slice none 0 0])
  have HL := Lib.hid (lengths_any 1000000 stableSaid_all (Nat.le_refl _) l A n cap most (w.alloc (.cells #[.slice none 0 0, .slice none 0 0] 84)) (HR.out.below L1.out) (by omega) (by omega) (.inl hones))
  go_enter Tryz.func32, Tryz.ntmps32
  go_wp2_with fail
  refine HL.out.mono ?_
  clear HL
  rintro ev w2 hp
  rcases hp with ⟨hbad, _⟩ | ⟨_, A1, c1, rfl, ho, hb⟩
  · rw [HO.out] at hbad; cases hbad
  have K2 := Lib.hid (K1.out.below hb K1.out.lt)
  have O2 := Lib.hid ho
  have B2 := Lib.hid hb
  have hnc : n ≤ c1 := by
    obtain ⟨A', c', hv, hc⟩ := own_slice ho
    injection hv with _ _ hv
    omega
  clear ho hb
  go_wp2_with fail
  refine (dmade_any (lengthsOf l most.toNat) A1 n c1 w2 (RdI.of_own O2.out) (by omega) HC.out).mono ?_
  rintro ev w3 ⟨A2, c2, rfl, ho3, hb3⟩
  have K3 := K2.out.below hb3 K2.out.lt
  have HK3 := Lib.hid K3
  have f0 := K3.free 0
  have f1 := K3.free 1
  have d0 := K3.cell (i := 0) rfl
  have d1 := K3.cell (i := 1) rfl
  have O3 := Lib.hid ho3
  have O23 := Lib.hid (own_below O2.out hb3)
  have B3 := Lib.hid hb3
  clear ho3 hb3 K3
  go_wp2
  have K4 := ((HK3.out.put 0 (.slice A1 n c1)).put 1 (.slice A2 n c2))
  refine bodyPost_ret (results_blk rfl _ w.heap.size rfl _ _ K4 _ Tryz.underlying84 rfl 2 infoCode rfl) rfl ?_
  have g1 := grown_put w3 ⟨w.heap.size, 0, none⟩ (.slice A1 n c1)
  have g2 := grown_put (w3.setCell ⟨w.heap.size, 0, none⟩ (.slice A1 n c1)) ⟨w.heap.size, 1, none⟩ (.slice A2 n c2)
  have hap : ∀ (v : Value) (xs : List Value) (b : Nat), w.heap.size < b → w3.ownsRow b 3 1 v n xs → v.ownBlock = none ∨ v.ownBlock ≠ some w.heap.size := fun v xs b hlt h => by
    right
    intro he
    have := (h.lt _ he).1
    omega
  have a1 := hap _ _ _ (by simp) O23.out
  have a2 := hap _ _ _ (by have := B2.out.size; simp at this; omega) O3.out
  have o1 := ((O23.out.kept g1 a1).kept g2 a1)
  have o2 := ((O3.out.kept g1 a2).kept g2 a2)
  have b1 : Below w.heap.size w w3 := (L1.out.trans (B2.out.mono (by simp))).trans (B3.out.mono (by have := B2.out.size; simp at this; omega))
  refine ⟨A1, c1, A2, c2, rfl, hnc, ownbase o1 (by simp), ownbase o2 (by have := B2.out.size; simp at this; omega), ?_⟩
  exact bl_g (bl_g b1 g1 (Nat.le_refl _)) g2 (Nat.le_refl _)
end Go.Proofs.YthmcdohndckniaaGreatDoor
