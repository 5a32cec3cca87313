/-
  what this claim needs of: DkE, DkA, DkB (written by cut.py).
-/
import Derived.Test.YtffalfacakdhkaaGreatDoorDQnB4
import Derived.Test.YtffalfacakdhkaaGreatDoorDQnF4
import Derived.Test.YtffalfacakdhkaaGreatDoorDDkLaid
import Derived.Test.YtffalfacakdhkaaGreatDoorDQnC4
import Derived.Test.YtffalfacakdhkaaGreatDoorDShelf
import Derived.Lib.Builder
import Derived.Lib.AppendStr
import Derived.Lib.UnsafeStr
namespace Go.Proofs.YtffalfacakdhkaaGreatDoor
open Go.RowKit Go.Maps Go.Shelf
set_option linter.unusedVariables false
set_option linter.unusedSimpArgs false

/-- A type of which an image has no block. -/
def OtT (t : TypeId) : Prop := 148 ≠ t ∧ 206 ≠ t ∧ 113 ≠ t ∧ 5 ≠ t ∧ 214 ≠ t ∧ 302 ≠ t ∧ 284 ≠ t ∧ 282 ≠ t ∧ 240 ≠ t
instance (t : TypeId) : Decidable (OtT t) := by unfold OtT; infer_instance
/-- A block that belongs to the desk, to an iterator or to a loop: none of a device's or an image's. -/
def Alien (W : World) (r : Nat) : Prop :=
 (∃ t cs, Blk W r t cs ∧ OtT t) ∨ (∃ o, W.heap[r]? = some o ∧ o.isCells = false ∧ ∀ es c, o ≠ .map es c)
theorem Alien.blk {W : World} {r b : Nat} {t : TypeId} {cs : Array Value} (h : Alien W r) (hb : Blk W b t cs) (h1 : ¬ OtT t) : b ∉ [r] := by
 intro hm
 simp only [List.mem_singleton] at hm
 subst hm
 rcases h with ⟨t', cs', h, ht⟩ | ⟨o, h, hc, _⟩
 ·exact blk_ne_tyD hb h (fun e => h1 (e ▸ ht)) rfl
 ·unfold Blk at hb
  rw [h] at hb
  injection hb with hb
  rw [hb] at hc
  cases hc
theorem Alien.map {W : World} {r b : Nat} {es : Array MapEntry} {c : Nat} (h : Alien W r) (hb : W.heap[b]? = some (.map es c)) : b ∉ [r] := by
 intro hm
 simp only [List.mem_singleton] at hm
 subst hm
 rcases h with ⟨t', cs', h, _⟩ | ⟨o, h, hc, hn⟩
 ·unfold Blk at h
  rw [hb] at h
  cases h
 ·rw [hb] at h
  injection h with h
  exact hn _ _ h.symm
theorem Alien.mapI {α β : Type} [DecidableEq α] {P : Program} {k : TypeId} {kv : α → Value} {kl : α → Lit} {ve : β → Value} {W : World} {r b : Nat} {M : List (α × β)} (h : Alien W r) (hb : MapIs P k kv kl ve W b M) : b ∉ [r] := by
 obtain ⟨es, c, he⟩ := hb.objD
 exact h.map he
theorem Alien.dk {W W' : World} {r d sb ob n : Nat} {S O : SM} (h : Alien W r) (hd : DkIs W d sb ob n S O) (hT : Tch [r] W W') : DkIs W' d sb ob n S O :=
 hd.tch hT (h.blk hd.blk (by decide)) (h.mapI hd.safe) (h.mapI hd.opn)
theorem Alien.st {W W' : World} {r si xi bx mi bs n : Nat} {E : ExM} {f : MpF} {M : SnM} (h : Alien W r) (hs : StIs W si xi bx mi bs n E f M) (hT : Tch [r] W W') : StIs W' si xi bx mi bs n E f M :=
 hs.tch hT (h.blk hs.blk (by decide)) (h.blk hs.idx.blk (by decide)) (h.mapI hs.idx.map) (h.blk hs.maps.blk (by decide)) (h.mapI hs.maps.map) (fun p hp => h.blk (hs.maps.each p hp) (by decide))
theorem Alien.cc [gm : Inhabited GMk] {W W' : World} {r c kb d sb ob n N : Nat} {L : Int → Sec} (h : Alien W r) (hc : CcI W c kb d sb ob n L N) (hT : Tch [r] W W') : CcI W' c kb d sb ob n L N := by
 obtain ⟨K, S, O, h1, h2, h3, h4, h5⟩ := hc
 obtain ⟨now, hi, mi, hb⟩ := h1.blk
 exact ⟨K, S, O, h1.tch hT (h.blk hb (by decide)) (h.mapI h1.map) (h.blk h1.dk.blk (by decide)) (h.mapI h1.dk.safe) (h.mapI h1.dk.opn) (fun b cs hk => h.blk hk (by decide)), h2, h3, h4, fun g hg => ⟨Nat.lt_of_lt_of_le (h5 g hg).1 hT.size, (h5 g hg).2⟩⟩
/-- What is asked of what lies beside a builder: that it stays where new blocks come, where the desk's own blocks turn, where the builder's row (v's block) is appended to. -/
structure EnvOk (E : Value → World → Prop) : Prop where
 below : ∀ {v : Value} {W W' : World}, E v W → Below W.heap.size W W' → E v W'
 alien : ∀ {v : Value} {W W' : World} {r : Nat}, E v W → Alien W r → Tch [r] W W' → E v W'
 app : ∀ {v v' : Value} {W W' : World}, E v W → (∀ g, v.ownBlock = some g → ∃ cs, Blk W g 5 cs) → W.grownBy W' v.ownBlock → (v'.ownBlock = v.ownBlock ∨ v'.ownBlock = some W.heap.size) → (∀ g, v'.ownBlock = some g → g < W'.heap.size) → E v' W'
theorem EnvOk.none : EnvOk (fun _ _ => True) := ⟨fun _ _ => trivial, fun _ _ _ => trivial, fun _ _ _ _ _ => trivial⟩
/-- The row v turns, or nothing but new blocks come. -/
theorem tch_row {v : Value} {W W' : World} (hg : W.grownBy W' v.ownBlock) : ∃ T, Tch T W W' ∧ ∀ k ∈ T, v.ownBlock = some k := by
 cases hv : v.ownBlock with
 | none =>
  rw [hv] at hg
  exact ⟨[], Tch.grown hg (by simp), by simp⟩
 | some g =>
  rw [hv] at hg
  exact ⟨[g], tch_g hg, by simp⟩
theorem EnvOk.dev (d sb ob n : Nat) : EnvOk (fun _ W => DkIs W d sb ob n [] []) := by
 refine ⟨fun h hb => h.below hb, fun h ha hT => ha.dk h hT, fun {v v' W W'} h hv hg _ _ => ?_⟩
 obtain ⟨T, hT, hm⟩ := tch_row hg
 have hn : ∀ b cs t, Blk W b t cs → t ≠ 5 → b ∉ T := fun b cs t hb ht hk => by
  obtain ⟨cs', h'⟩ := hv b (hm b hk)
  exact blk_ne_tyD hb h' ht rfl
 have hp : ∀ {M : SM} {b : Nat}, MapIs Tryz.prog 3 kD lD vSec W b M → b ∉ T := fun {M b} hb hk => by
  obtain ⟨cs', h'⟩ := hv b (hm b hk)
  exact blk_ne_mapD hb h' rfl
 exact h.tch hT (hn _ _ _ h.blk (by decide)) (hp h.safe) (hp h.opn)
/-- Where an image's blocks lie. -/
structure ImI where
 x : Nat
 c : Nat
 kb : Nat
 d : Nat
 sb : Nat
 ob : Nat
 si : Nat
 xi : Nat
 bx : Nat
 mi : Nat
 bs : Nat
 jb : Nat
 rb : Nat
def imC (i : ImI) (Y : Hd) : List Value := .pointer (some ⟨i.d, 0, none⟩) :: .pointer (some ⟨i.c, 0, none⟩) :: (hdC Y ++ [.pointer (some ⟨i.si, 0, none⟩), .pointer (some ⟨i.jb, 0, none⟩), .pointer (some ⟨i.rb, 0, none⟩), .int .u32 0])
/-- An image of the small geometry on a device of 400 sectors, whose map is empty, at W; the blocks that gm marks hold none of its cache's rows. -/
structure ImIs [gm : Inhabited GMk] (W : World) (i : ImI) (N q : Nat) (Y : Hd) (M : SnM) : Prop where
 blk : Blk W i.x 148 (imC i Y).toArray
 cc : ∃ L, CcI W i.c i.kb i.d i.sb i.ob 400 L N
 st : StIs W i.si i.xi i.bx i.mi i.bs 8 [] zF M
 jr : Blk W i.jb 240 (jrC i.c 10 8 1 q q).toArray
 ids : IdsOk M
 allz : allZ M
 far : (i.bx ≠ i.kb ∧ i.bx ≠ i.sb ∧ i.bx ≠ i.ob) ∧ (i.bs ≠ i.kb ∧ i.bs ≠ i.sb ∧ i.bs ≠ i.ob)
 geo : Y.geo = geS
/-- The blocks that an image's deeds turn. -/
def imT (i : ImI) : List Nat := [i.c, i.kb, i.sb, i.ob, i.jb, i.x, i.bx, i.mi, i.bs]
section
variable [gm : Inhabited GMk] {W W' : World} {i : ImI} {N q : Nat} {Y : Hd} {M : SnM}
theorem ImIs.below (h : ImIs W i N q Y M) (hb : Below W.heap.size W W') : ImIs W' i N q Y M :=
 ⟨h.blk.below hb h.blk.lt, h.cc.imp fun _ k => k.below hb, h.st.below hb, h.jr.below hb h.jr.lt, h.ids, h.allz, h.far, h.geo⟩
theorem ImIs.drew (h : ImIs W i N q Y M) : ImIs W.drew i N q Y M := h.below (Below.refl _ W).drew
theorem ImIs.alien {r : Nat} (h : ImIs W i N q Y M) (ha : Alien W r) (hT : Tch [r] W W') : ImIs W' i N q Y M :=
 ⟨h.blk.tch hT (ha.blk h.blk (by decide)), h.cc.imp fun _ k => ha.cc k hT, ha.st h.st hT, h.jr.tch hT (ha.blk h.jr (by decide)), h.ids, h.allz, h.far, h.geo⟩
theorem ImIs.apart {b : Nat} {t : TypeId} {cs : Array Value} (h : ImIs W i N q Y M) (hb : Blk W b t cs) (ht : t = 37 ∨ t = 5) : b ∉ imT i := by
 obtain ⟨L, K, S, O, h1, h2⟩ := h.cc
 obtain ⟨now, hi, mi, hk⟩ := h1.blk
 have hty : ∀ r t' cs', Blk W r t' cs' → t' ≠ 37 → t' ≠ 5 → b ≠ r := fun r t' cs' hr h3 h4 => by
  rcases ht with rfl | rfl
  ·exact blk_ne_tyD hb hr h3.symm
  ·exact blk_ne_tyD hb hr h4.symm
 unfold imT
 simp only [List.mem_cons, List.not_mem_nil, or_false, not_or]
 exact ⟨hty _ _ _ hk (by decide) (by decide), blk_ne_mapD h1.map hb, blk_ne_mapD h1.dk.safe hb, blk_ne_mapD h1.dk.opn hb, hty _ _ _ h.jr (by decide) (by decide), hty _ _ _ h.blk (by decide) (by decide), blk_ne_mapD h.st.idx.map hb, hty _ _ _ h.st.maps.blk (by decide) (by decide), blk_ne_mapD h.st.maps.map hb⟩
end
/-- A state stays where a cache and its device turn. -/
theorem StIs.cc [gm : Inhabited GMk] {W W' : World} {c kb d sb ob n N si xi bx mi bs k : Nat} {L : Int → Sec} {E : ExM} {f : MpF} {M : SnM} (h : StIs W si xi bx mi bs k E f M) (hc : CcI W c kb d sb ob n L N) (hf : (bx ≠ kb ∧ bx ≠ sb ∧ bx ≠ ob) ∧ (bs ≠ kb ∧ bs ≠ sb ∧ bs ≠ ob)) (hT : Tch [c, kb, sb, ob] W W') : StIs W' si xi bx mi bs k E f M := by
 obtain ⟨K, S, O, h1, h2⟩ := hc
 obtain ⟨now, hi, mi2, hk⟩ := h1.blk
 have hm : ∀ {α β : Type} [DecidableEq α] {k : TypeId} {kv : α → Value} {kl : α → Lit} {ve : β → Value} {M : List (α × β)} {b : Nat}, MapIs Tryz.prog k kv kl ve W b M → b ≠ kb → b ≠ sb → b ≠ ob → b ∉ [c, kb, sb, ob] := fun hx e1 e2 e3 => by
  have := blk_ne_mapD hx hk
  simp only [List.mem_cons, List.not_mem_nil, or_false, not_or]
  exact ⟨this.symm, e1, e2, e3⟩
 have hb : ∀ {r t cs}, Blk W r t cs → t ≠ 206 → r ∉ [c, kb, sb, ob] := fun {r t cs} hr ht => CcI.noBlk ⟨K, S, O, h1, h2⟩ hr ht
 exact h.tch hT (hb h.blk (by decide)) (hb h.idx.blk (by decide)) (hm h.idx.map hf.1.1 hf.1.2.1 hf.1.2.2) (hb h.maps.blk (by decide)) (hm h.maps.map hf.2.1 hf.2.2.1 hf.2.2.2) (fun p hp => hb (h.maps.each p hp) (by decide))
/-- A cache stays where a state turns. -/
theorem CcI.st [gm : Inhabited GMk] {W W' : World} {c kb d sb ob n N si xi bx mi bs k : Nat} {L : Int → Sec} {E : ExM} {f : MpF} {M : SnM} (hc : CcI W c kb d sb ob n L N) (h : StIs W si xi bx mi bs k E f M) (hf : (bx ≠ kb ∧ bx ≠ sb ∧ bx ≠ ob) ∧ (bs ≠ kb ∧ bs ≠ sb ∧ bs ≠ ob)) (hT : Tch [bx, mi, bs] W W') : CcI W' c kb d sb ob n L N := by
 obtain ⟨K, S, O, h1, h2, h3, h4, h5⟩ := hc
 obtain ⟨now, hi, mi2, hk⟩ := h1.blk
 have hb : ∀ {r t cs}, Blk W r t cs → t ≠ 284 → r ∉ [bx, mi, bs] := fun {r t cs} hr ht => by
  simp only [List.mem_cons, List.not_mem_nil, or_false, not_or]
  exact ⟨blk_ne_mapD h.idx.map hr, blk_ne_tyD hr h.maps.blk ht, blk_ne_mapD h.maps.map hr⟩
 have hm : ∀ {α β : Type} [DecidableEq α] {k : TypeId} {kv : α → Value} {kl : α → Lit} {ve : β → Value} {M : List (α × β)} {b : Nat}, MapIs Tryz.prog k kv kl ve W b M → bx ≠ b → bs ≠ b → b ∉ [bx, mi, bs] := fun hx e1 e2 => by
  have := blk_ne_mapD hx h.maps.blk
  simp only [List.mem_cons, List.not_mem_nil, or_false, not_or]
  exact ⟨e1.symm, this.symm, e2.symm⟩
 exact ⟨K, S, O, h1.tch hT (hb hk (by decide)) (hm h1.map hf.1.1 hf.2.1) (hb h1.dk.blk (by decide)) (hm h1.dk.safe hf.1.2.1 hf.2.2.1) (hm h1.dk.opn hf.1.2.2 hf.2.2.2) (fun b cs hx => hb hx (by decide)), h2, h3, h4, fun g hg => ⟨Nat.lt_of_lt_of_le (h5 g hg).1 hT.size, (h5 g hg).2⟩⟩
/-- Marks: the block of v. -/
abbrev mkV (v : Value) : Inhabited GMk := ⟨⟨fun g => v.ownBlock = some g⟩⟩
theorem CcI.remark {v v' : Value} {W W' : World} {c kb d sb ob n N : Nat} {L : Int → Sec} (h : @CcI (mkV v) W c kb d sb ob n L N) (hv : ∀ g, v.ownBlock = some g → ∃ cs, Blk W g 5 cs) (hg : W.grownBy W' v.ownBlock) (hn : v'.ownBlock = v.ownBlock ∨ v'.ownBlock = some W.heap.size) (hl : ∀ g, v'.ownBlock = some g → g < W'.heap.size) : @CcI (mkV v') W' c kb d sb ob n L N := by
 obtain ⟨K, S, O, h1, h2, h3, h4, h5⟩ := h
 have h5' : ∀ g, v.ownBlock = some g → g < W.heap.size ∧ Avoid K g := h5
 obtain ⟨T, hT, hm⟩ := tch_row hg
 obtain ⟨now, hi, mi, hb⟩ := h1.blk
 have hnb : ∀ b cs t, Blk W b t cs → t ≠ 5 → b ∉ T := fun b cs t hb ht hk => by
  obtain ⟨cs', h'⟩ := hv b (hm b hk)
  exact blk_ne_tyD hb h' ht rfl
 have hp : ∀ {α β : Type} [DecidableEq α] {k : TypeId} {kv : α → Value} {kl : α → Lit} {ve : β → Value} {M : List (α × β)} {b : Nat}, MapIs Tryz.prog k kv kl ve W b M → b ∉ T := fun hb hk => by
  obtain ⟨cs', h'⟩ := hv _ (hm _ hk)
  exact blk_ne_mapD hb h' rfl
 refine ⟨K, S, O, ⟨⟨now, hi, mi, hb.tch hT (hnb _ _ _ hb (by decide))⟩, h1.map.tch hT (hp h1.map), h1.dk.tch hT (hnb _ _ _ h1.dk.blk (by decide)) (hp h1.dk.safe) (hp h1.dk.opn), fun p hp' => ⟨?_, (h1.rows p hp').2⟩, h1.nes⟩, h2, h3, h4, fun g hg' => ⟨hl g hg', ?_⟩⟩
 ·obtain ⟨b, off, cs2, e2, hb2, h7⟩ := (h1.rows p hp').1
  exact ⟨b, off, cs2, e2, hb2.tch hT (fun hk => (h5' b (hm b hk)).2 p hp' _ e2 rfl), h7⟩
 ·intro p hp' a ha e
  have hg2 : v'.ownBlock = some g := hg'
  rcases hn with hn | hn
  ·rw [hn] at hg2
   exact (h5' g hg2).2 p hp' a ha e
  ·rw [hn] at hg2
   injection hg2 with hg2
   obtain ⟨b, off, cs2, e2, hb2, h7⟩ := (h1.rows p hp').1
   have := hb2.lt
   rw [ha] at e2
   injection e2 with e2
   rw [e2] at e
   simp only at e
   omega
theorem EnvOk.img (i : ImI) (N q : Nat) (Y : Hd) (M : SnM) : EnvOk (fun v W => @ImIs (mkV v) W i N q Y M) := by
 refine ⟨fun {v W W'} h hb => @ImIs.below (mkV v) _ _ _ _ _ _ _ h hb, fun {v W W' r} h ha hT => @ImIs.alien (mkV v) _ _ _ _ _ _ _ _ h ha hT, fun {v v' W W'} h hv hg hn hl => ?_⟩
 obtain ⟨T, hT, hm⟩ := tch_row hg
 have hnb : ∀ b cs t, Blk W b t cs → t ≠ 5 → b ∉ T := fun b cs t hb ht hk => by
  obtain ⟨cs', h'⟩ := hv b (hm b hk)
  exact blk_ne_tyD hb h' ht rfl
 have hp : ∀ {α β : Type} [DecidableEq α] {k : TypeId} {kv : α → Value} {kl : α → Lit} {ve : β → Value} {M : List (α × β)} {b : Nat}, MapIs Tryz.prog k kv kl ve W b M → b ∉ T := fun hb hk => by
  obtain ⟨cs', h'⟩ := hv _ (hm _ hk)
  exact blk_ne_mapD hb h' rfl
 obtain ⟨h1, ⟨L, h2⟩, h3, h4, h5, h6, h7, h8⟩ := h
 exact @ImIs.mk (mkV v') _ _ _ _ _ _ (h1.tch hT (hnb _ _ _ h1 (by decide))) ⟨L, CcI.remark h2 hv hg hn hl⟩
  (h3.tch hT (hnb _ _ _ h3.blk (by decide)) (hnb _ _ _ h3.idx.blk (by decide)) (hp h3.idx.map) (hnb _ _ _ h3.maps.blk (by decide)) (hp h3.maps.map) (fun p hp' => hnb _ _ _ (h3.maps.each p hp') (by decide)))
  (h4.tch hT (hnb _ _ _ h4 (by decide))) h5 h6 h7 h8
theorem EnvOk.ex {ι : Type} {E : ι → Value → World → Prop} (h : ∀ i, EnvOk (E i)) : EnvOk (fun v W => ∃ i, E i v W) :=
 ⟨fun ⟨i, hi⟩ hb => ⟨i, (h i).below hi hb⟩, fun ⟨i, hi⟩ ha hT => ⟨i, (h i).alien hi ha hT⟩, fun ⟨i, hi⟩ a b c d => ⟨i, (h i).app hi a b c d⟩⟩
theorem EnvOk.and {p : Prop} {E : Value → World → Prop} (h : EnvOk E) : EnvOk (fun v W => p ∧ E v W) :=
 ⟨fun ⟨a, hi⟩ hb => ⟨a, h.below hi hb⟩, fun ⟨a, hi⟩ ha hT => ⟨a, h.alien hi ha hT⟩, fun ⟨a, hi⟩ x y z u => ⟨a, h.app hi x y z u⟩⟩
end Go.Proofs.YtffalfacakdhkaaGreatDoor
namespace Go.Proofs.YtffalfacakdhkaaGreatDoor
open Go.RowKit Go.Maps Go.Shelf
set_option linter.unusedVariables false
set_option linter.unusedSimpArgs false
attribute [local go_sem] Oper.semAt_some

/-- Pieces, with a line's end between each two. -/
def joinN : List (List UInt8) → List UInt8
 | [] => []
 | [a] => a
 | a :: b :: r => a ++ 10 :: joinN (b :: r)
theorem indexB_none : ∀ (a : List UInt8), 10 ∉ a → Lib.indexByte a 10 = -1
 | [], _ => rfl
 | x :: a, h => by
  have h1 := indexB_none a (fun hm => h (List.mem_cons_of_mem _ hm))
  have h2 : (x == 10) = false := by
   rw [beq_eq_false_iff_ne]
   intro e
   exact h (by rw [e]; exact List.mem_cons_self ..)
  unfold Lib.indexByte
  rw [h1, h2]
  rfl
theorem indexB_some : ∀ (a r : List UInt8), 10 ∉ a → Lib.indexByte (a ++ 10 :: r) 10 = (a.length : Int)
 | [], r, _ => by
  show Lib.indexByte (10 :: r) 10 = _
  unfold Lib.indexByte
  rfl
 | x :: a, r, h => by
  have h1 := indexB_some a r (fun hm => h (List.mem_cons_of_mem _ hm))
  have h2 : (x == 10) = false := by
   rw [beq_eq_false_iff_ne]
   intro e
   exact h (by rw [e]; exact List.mem_cons_self ..)
  show Lib.indexByte (x :: (a ++ 10 :: r)) 10 = _
  unfold Lib.indexByte
  rw [h1, h2, if_neg (by decide), if_neg (by simp)]
  simp
theorem joinN_last (ls : List (List UInt8)) (k : Nat) (h : k + 1 = ls.length) : joinN (ls.drop k) = ls.getD k [] := by
 have h1 : ls.drop k = [ls.getD k []] := by
  rw [List.drop_eq_getElem_cons (by omega), List.drop_eq_nil_of_le (by omega), List.getD_eq_getElem?_getD, List.getElem?_eq_getElem (by omega)]
  rfl
 rw [h1]
 rfl
theorem joinN_more (ls : List (List UInt8)) (k : Nat) (h : k + 1 < ls.length) : joinN (ls.drop k) = ls.getD k [] ++ 10 :: joinN (ls.drop (k + 1)) := by
 have h1 : ls.drop k = ls.getD k [] :: ls.drop (k + 1) := by
  rw [List.drop_eq_getElem_cons (by omega), List.getD_eq_getElem?_getD, List.getElem?_eq_getElem (by omega)]
  rfl
 have h2 : ls.drop (k + 1) = ls.getD (k + 1) [] :: ls.drop (k + 2) := by
  rw [List.drop_eq_getElem_cons (by omega), List.getD_eq_getElem?_getD, List.getElem?_eq_getElem (by omega)]
  rfl
 rw [h1, h2]
 rfl
theorem getD_mem {ls : List (List UInt8)} {k : Nat} (h : k < ls.length) : ls.getD k [] ∈ ls := by
 rw [List.getD_eq_getElem?_getD, List.getElem?_eq_getElem h]
 exact List.getElem_mem h
theorem joinN_len (ls : List (List UInt8)) : (joinN ls).length ≤ (ls.map (fun a => a.length + 1)).sum := by
 induction ls with
 | nil => simp [joinN]
 | cons a r ih =>
  cases r with
  | nil => simp [joinN]
  | cons b r =>
   show (a ++ 10 :: joinN (b :: r)).length ≤ _
   rw [List.length_append, List.length_cons, List.map_cons, List.sum_cons]
   omega
theorem joinN_drop (ls : List (List UInt8)) (m : Nat) (h : (ls.map (fun a => a.length + 1)).sum ≤ m) (k : Nat) : (joinN (ls.drop k)).length ≤ m := by
 refine Nat.le_trans (joinN_len _) (Nat.le_trans ?_ h)
 clear h
 induction ls generalizing k with
 | nil => simp
 | cons a r ih =>
  cases k with
  | zero => simp
  | succ k =>
   rw [List.drop_succ_cons, List.map_cons, List.sum_cons]
   have := ih k
   omega
theorem joinN_rep : ∀ n : Nat, joinN (List.replicate (n + 1) []) = List.replicate n 10
 | 0 => rfl
 | n + 1 => by
  have ih := joinN_rep n
  rw [List.replicate_succ] at ih
  rw [List.replicate_succ, List.replicate_succ]
  show [] ++ 10 :: joinN ([] :: List.replicate n []) = _
  rw [ih]
  rfl
/-- The boxes of the iterator: what is left, what splits, how much of that is kept. -/
def SpB (Bs Bp Bz : Nat) (R : List UInt8) (W : World) : Prop := Boxed W Bs 9 (.string ⟨R.toArray⟩) ∧ Boxed W Bp 9 (.string ⟨#[10]⟩) ∧ Boxed W Bz 3 (.int .i64 0)
def spLen (Bs : Nat) (W : World) : Nat := match W.cell? ⟨Bs, 0, none⟩ with
 | some (.string s) => s.size
 | _ => 0
theorem ba_len (l : List UInt8) : (⟨l.toArray⟩ : ByteArray).size = l.length := by
 show l.toArray.size = _
 simp
theorem ba_take (a r : List UInt8) (n : Nat) (h : n = a.length) : (⟨(a ++ r).toArray⟩ : ByteArray).extract 0 n = ⟨a.toArray⟩ := by
 subst h
 apply ByteArray.ext
 simp
theorem ba_drop (a r : List UInt8) (n m : Nat) (h : n = a.length) (hm : m = a.length + r.length) : (⟨(a ++ r).toArray⟩ : ByteArray).extract n m = ⟨r.toArray⟩ := by
 subst h
 subst hm
 apply ByteArray.ext
 simp
theorem SpB.put {Bs Bp Bz : Nat} {R R' : List UInt8} {W : World} (h : SpB Bs Bp Bz R W) (h1 : Bs ≠ Bp) (h2 : Bs ≠ Bz) : SpB Bs Bp Bz R' (W.setCell ⟨Bs, 0, none⟩ (.string ⟨R'.toArray⟩)) := ⟨h.1.set _, h.2.1.other h1.symm _, h.2.2.other h2.symm _⟩
set_option maxRecDepth 100000 in
set_option maxHeartbeats 1000000 in
theorem sp_in (n : Nat) (hn : 1 ≤ n) (l Bs Bp Bz : Nat) (hne : Bs ≠ Bp ∧ Bs ≠ Bz) (ls : List (List UInt8)) (hls : 0 < ls.length) (hno : ∀ a ∈ ls, 10 ∉ a) (hsz : ∀ k, (joinN (ls.drop k)).length ≤ 2000000) (J : Nat → World → Prop)
  (hJ : ∀ k W W' row, J k W → W.grownBy W' row → (∀ r, row = some r → r = Bs ∧ ∃ v, Boxed W Bs 9 v) → J k W')
  (hY : ∀ k W, k < ls.length → J k W → SpB Bs Bp Bz (joinN (ls.drop k)) W → YieldAt Fence.wide (n - 1) Tryz.prog l #[.string ⟨(ls.getD k []).toArray⟩] W fun e W' => e = .returned (.bool true) ∧ J (k + 1) W' ∧ SpB Bs Bp Bz (joinN (ls.drop k)) W')
  (W : World) (h0 : J 0 W) (hB : SpB Bs Bp Bz (joinN ls) W) :
  CallsIn Fence.wide n Tryz.prog 30 #[.func (.yield l) #[] #[], .pointer (some ⟨Bp, 0, none⟩), .pointer (some ⟨Bs, 0, none⟩), .pointer (some ⟨Bz, 0, none⟩)] W fun e W' => (∃ v, e = .returned v) ∧ J ls.length W' := by
 have hne1 := hne.1
 have hne2 := hne.2
 have p0 := hB.2.1.cell
 refine callsIn_of_wp Tryz.func30 rfl trivial ?_ rfl
 simp only [Tryz.ntmps30, List.size_toArray, List.length_cons, List.length_nil, Nat.reduceAdd, Nat.reduceSub, Array.replicate_succ, Array.replicate_zero, List.push_toArray, List.append_toArray, List.nil_append, List.cons_append]
 have hs10 : (⟨#[10]⟩ : ByteArray).size = 1 := rfl
 gi_wp2
 clear p0
 gi_loopw [7] (fun p wr => ∃ k, k < ls.length ∧ J k wr ∧ SpB Bs Bp Bz (joinN (ls.drop k)) wr) (fun p wr => spLen Bs wr)
 case atStart => exact ⟨0, hls, h0, hB⟩
 case round =>
  obtain ⟨k, hk, hJk, hSp⟩ := hrel
  have ca := hSp.1.cell
  have cb := hSp.2.1.cell
  have cz := hSp.2.2.cell
  have fa := hSp.1.frozen
  have hlen : spLen Bs wr = (joinN (ls.drop k)).length := by
   unfold spLen
   rw [ca]
   exact ba_len _
  obtain ⟨fn, tmps, assign, body, hy, hR⟩ := hY k wr hk hJk hSp
  have HSz := yH (hsz k)
  by_cases hlast : k + 1 = ls.length
  ·have hjl := joinN_last ls k hlast
   obtain ⟨A, hA⟩ : ∃ A, A = ls.getD k [] := ⟨_, rfl⟩
   rw [← hA] at hjl hy
   rw [hjl] at ca
   have hix := (Tryz.strings_Index_one ⟨A.toArray⟩ 10 wr)
   have hi2 : Lib.indexByte (⟨A.toArray⟩ : ByteArray).data.toList 10 = -1 := indexB_none A (by rw [hA]; exact hno _ (getD_mem hk))
   rw [hi2] at hix
   have HI := yH hix
   have HK := yH (And.intro hk hlast)
   clear hi2 hix hA hk hlast hY hJ hB h0 hsz hno hls hlen hjl
   gi_wp2
   refine ⟨trivial, (callsIn_wide.2 HI.out).mono ?_⟩
   rintro e w1 ⟨rfl, rfl⟩
   gi_wp2
   refine hR.mono ?_
   rintro e W3 ⟨rfl, hJ3, _⟩
   have HJ3 := yH hJ3
   clear hJ3 hR hy
   gi_wp2
   go_end0
   exact ⟨⟨_, rfl⟩, by rw [← HK.out.2]; exact HJ3.out⟩
  ·have hk1 : k + 1 < ls.length := by omega
   have hjl := joinN_more ls k hk1
   obtain ⟨A, hA⟩ : ∃ A, A = ls.getD k [] := ⟨_, rfl⟩
   obtain ⟨R, hR'⟩ : ∃ R, R = joinN (ls.drop (k + 1)) := ⟨_, rfl⟩
   rw [← hA] at hy
   rw [← hA, ← hR'] at hjl
   obtain ⟨T, hT⟩ : ∃ T, T = A ++ 10 :: R := ⟨_, rfl⟩
   rw [hjl, ← hT] at ca
   rw [hjl, ← hT] at hlen HSz
   have hix := (Tryz.strings_Index_one ⟨T.toArray⟩ 10 wr)
   have hi2 : Lib.indexByte (⟨T.toArray⟩ : ByteArray).data.toList 10 = (A.length : Int) := by rw [hT]; exact indexB_some A R (by rw [hA]; exact hno _ (getD_mem hk))
   rw [hi2] at hix
   have HI := yH hix
   have hTs : (⟨T.toArray⟩ : ByteArray).size = T.length := ba_len T
   have hTl : T.length = A.length + (R.length + 1) := by rw [hT]; simp
   have hAl : A.length ≤ 2000000 := by have := HSz.out; omega
   have e1 : (⟨T.toArray⟩ : ByteArray).extract 0 A.length = ⟨A.toArray⟩ := by rw [hT]; exact ba_take A _ _ rfl
   have e2 : (⟨T.toArray⟩ : ByteArray).extract (A.length + 1) T.length = ⟨R.toArray⟩ := by
    rw [hT, show A ++ 10 :: R = (A ++ [10]) ++ R by simp]
    exact ba_drop _ R _ _ (by simp) (by simp; omega)
   have hAT : (A.length : Int) ≤ (T.length : Int) := by omega
   have hAT1 : (A.length : Int) + 1 ≤ (T.length : Int) := by omega
   have hT2 : T.length ≤ 2000000 := HSz.out
   have HT := yH (And.intro hT (And.intro hTl (And.intro hTs (And.intro e1 e2))))
   have HA := yH hA
   have HR := yH hR'
   have HJL := yH hjl
   have HK := yH (And.intro hk hk1)
   have HLn := yH hlen
   clear hi2 hix hA hk hk1 hlast hY hB h0 hsz hno hls hlen hjl hT hR' hTl hTs
   gi_wp2
   refine ⟨trivial, (callsIn_wide.2 HI.out).mono ?_⟩
   rintro e w1 ⟨rfl, rfl⟩
   gi_wp2
   refine hR.mono ?_
   rintro e W3 ⟨rfl, hJ3, hS3⟩
   rw [HJL.out, ← HT.out.1] at hS3
   have ca3 := hS3.1.cell
   have cb3 := hS3.2.1.cell
   have fa3 := hS3.1.frozen
   have HS3 := yH hS3
   have HJ3 := yH hJ3
   clear hJ3 hS3 hR hy ca cb cz fa
   gi_wp2
   refine ⟨⟨k + 1, HK.out.2, hJ _ _ _ (some Bs) HJ3.out (grownBy_setCell' _ _ _) (fun r e => by injection e with e; subst e; exact ⟨rfl, _, HS3.out.1⟩), ?_⟩, ?_⟩
   ·rw [← HR.out]
    exact HS3.out.put hne1 hne2
   ·rw [HLn.out]
    have hB5 := (HS3.out.1.set (.string ⟨R.toArray⟩)).cell
    unfold spLen
    rw [hB5]
    show (⟨R.toArray⟩ : ByteArray).size < _
    rw [ba_len]
    have := HT.out.2.1
    omega
end Go.Proofs.YtffalfacakdhkaaGreatDoor
namespace Go.Proofs.YtffalfacakdhkaaGreatDoor
open Go.RowKit Go.Maps Go.Shelf
set_option linter.unusedVariables false
set_option linter.unusedSimpArgs false

theorem sizeBuilder : (Tryz.prog.info? 33).map (·.size) = some 2 := by kernel_rfl
theorem liesDesk : liesAt Tryz.prog Tryz.prog.depth 37 (5 / Tryz.prog.cellsOf 37) 0 33 1 = true := by kernel_rfl
set_option maxRecDepth 100000 in
theorem dk_check_used (db : Nat) (w : World) (h0 : w.cell? ⟨db, 0, none⟩ = some (.pointer (some ⟨db, 0, none⟩))) :
  Calls Tryz.prog 16 #[.pointer (some ⟨db, 0, none⟩)] w fun e w' => e = .returned (.tuple #[]) ∧ w = w' := by
 obtain ⟨j, hj, _⟩ := Option.map_eq_some_iff.1 sizeBuilder
 go_enter Tryz.func16, Tryz.ntmps16
 go_wp2
 rw [Lib.run_neq_ptr_same w _ Tryz.underlying31 hj]
 go_wp2
 go_end0
 exact ⟨rfl, rfl⟩
set_option maxRecDepth 100000 in
theorem dk_check_fresh (db : Nat) (w : World) (h0 : w.cell? ⟨db, 0, none⟩ = some (.pointer none)) (hsh : w.shape? db = some (37, 5)) (hfz : w.frozen? ⟨db, 0, none⟩ = false) :
  Calls Tryz.prog 16 #[.pointer (some ⟨db, 0, none⟩)] w fun e w' => e = .returned (.tuple #[]) ∧ w' = w.setCell ⟨db, 0, none⟩ (.pointer (some ⟨db, 0, none⟩)) := by
 obtain ⟨j, hj, hjs⟩ := Option.map_eq_some_iff.1 sizeBuilder
 go_enter Tryz.func16, Tryz.ntmps16
 go_wp2
 rw [Lib.run_to_unsafe w ⟨db, 0, none⟩ Tryz.underlying31 Tryz.underlying72 hj (by rw [hjs]; decide) hsh (by show 0 < 5; omega)]
 simp only [Result.andThen]
 rw [Oper.upon_value]
 go_wp2
 rw [run_callFunc_extern Tryz.func28 (by kernel_rfl) (by kernel_rfl) (by kernel_rfl) (e := Extern.AbiNoEscape.same) (by kernel_rfl)]
 rw [Lib.run_noEscape]
 simp only [Result.andThen]
 rw [Oper.upon_value]
 go_wp2
 rw [Lib.run_from_unsafe w ⟨db, 0, none⟩ Tryz.underlying72 Tryz.underlying31 hj hsh liesDesk]
 simp only [Result.andThen]
 rw [Oper.upon_value]
 go_wp2
 go_end0
 exact ⟨rfl, rfl⟩
/-- A desk at db, made behind w0: v its builder's row, that holds out; p its builder's address of itself. -/
structure DkA (w0 W : World) (db : Nat) (v p : Value) (out : List UInt8) (dp xp : Value) (n : Int) : Prop where
 ge : w0.heap.size ≤ db
 low : Below w0.heap.size w0 W
 blk : Blk W db 37 #[p, v, dp, xp, .int .i64 n]
 own : W.ownsRow w0.heap.size 5 1 v out.length (Lib.byteCells out)
 self : p = .pointer none ∨ p = .pointer (some ⟨db, 0, none⟩)
 nn : out = [] → v = .slice none 0 0
section
variable {w0 W W' : World} {db : Nat} {v p : Value} {out : List UInt8} {dp xp : Value} {n : Int}
theorem DkA.below (h : DkA w0 W db v p out dp xp n) (hb : Below W.heap.size W W') : DkA w0 W' db v p out dp xp n :=
 ⟨h.ge, below_chain h.low hb, h.blk.below hb h.blk.lt, own_belowR h.own hb, h.self, h.nn⟩
theorem DkA.row (h : DkA w0 W db v p out dp xp n) : ∀ g, v.ownBlock = some g → ∃ cs, Blk W g 5 cs := by
 intro g hg
 rcases h.own.2 with ⟨rfl, _⟩ | ⟨g', cap, cur, rfl, a1, a2, _⟩
 ·cases hg
 ·injection hg with hg
  simp only at hg
  subst hg
  exact ⟨cur, a2⟩
theorem DkA.alien (h : DkA w0 W db v p out dp xp n) : Alien W db := .inl ⟨_, _, h.blk, by decide⟩
/-- One of the desk's cells is stored into. -/
theorem DkA.setBlk {p' dp' xp' : Value} {n' : Int} (h : DkA w0 W db v p out dp xp n) (hb : Blk W' db 37 #[p', v, dp', xp', .int .i64 n']) (hT : Tch [db] W W') (hs : p' = .pointer none ∨ p' = .pointer (some ⟨db, 0, none⟩)) : DkA w0 W' db v p' out dp' xp' n' := by
 refine ⟨h.ge, h.low.trans (hT.toBelow h.low.size (fun k hk => by have := h.ge; simp at hk; omega)), hb, ?_, hs, h.nn⟩
 refine ⟨h.own.1, h.own.2.imp id ?_⟩
 rintro ⟨g, cap, cur, e1, a1, a2, r⟩
 have h3 : Blk W g 5 cur := a2
 exact ⟨g, cap, cur, e1, a1, h3.tch hT (by have := blk_ne_tyD h3 h.blk (by decide); simpa using this), r⟩
end
theorem run_app_str {P : Program} (w : World) (base : Nat) (t u ty e : TypeId) (i : TypeInfo) (ht : P.underlying t = some (.slice e)) (hu : P.underlying u = some .string) (hi : P.info? e = some i) (hz : i.zero = some (.int .u8 0)) (hsize : i.size = 1) (hby : i.bytes = 1)
  (v : Value) (n : Nat) (xs : List Value) (hown : w.ownsRow base e 1 v n xs) (s : ByteArray) (hb : n + s.size ≤ 1000000000) (hbase : base ≤ w.heap.size) :
  ∃ v' w', (Builtin.append_ #[t, u] ty #[v, .string s]).run P w = .ok v' w' ∧ w'.ownsRow base e 1 v' (n + s.size) (xs ++ Lib.strCells s) ∧ w.grownBy w' v.ownBlock ∧ (v'.ownBlock = v.ownBlock ∨ v'.ownBlock = some w.heap.size) := by
 obtain ⟨v', w', hr, h2, h3, h4⟩ := Lib.run_append_own_string (P := P) w base t u ty e i ht hu hi hz hsize hby v n xs hown s (by unfold maxLen; omega) (by omega) hbase
 refine ⟨v', w', hr, h2, h3, ?_⟩
 rcases hown.2 with ⟨rfl, rfl⟩ | ⟨g, cap, cur, rfl, hbg, hg, hnc, hcm, hcs, htake⟩
 ·by_cases hm : s.size = 0
  ·exact .inl (by rw [h4.2 ⟨rfl, hm⟩])
  ·have hr2 := run_append_nil_string (P := P) w t u ty e i (.int .u8 0) ht hu hi hz s (by omega) (by omega) (by rw [hby]; omega)
   rw [hr] at hr2
   injection hr2 with e1 e2
   exact .inr (by rw [e1]; rfl)
 ·by_cases hroom : n + s.size ≤ cap
  ·have hr2 := Lib.run_append_room_string (P := P) w t u ty e i ht hu hi hsize g n cap cur hg s hroom (by omega)
   rw [hr] at hr2
   injection hr2 with e1 e2
   exact .inl (by rw [e1]; rfl)
  ·have hr2 := Lib.run_append_grow_string (P := P) w t u ty e i (.int .u8 0) ht hu hi hz ⟨g, 0, none⟩ n cap xs (by rw [hsize]; simpa using hown.1) (hown.cells (g := g) rfl) s (by omega) (by omega) (by rw [hby]; exact growslice_fits (by omega) (by omega))
   rw [hr] at hr2
   injection hr2 with e1 e2
   exact .inr (by rw [e1]; rfl)
theorem wpl_app_str {P : Program} {w : World} {ops : Array Oper} {rest : List Oper} {o : Oper} {a : Act} {Q : Exit → Act → World → Prop} (hgd : o.guard = none) (sl x : Operand) (t u : TypeId) (ho : o.op = .call { callee := .builtin .append, args := #[sl, x], argTypes := #[t, u] })
  (base : Nat) (e : TypeId) (ht : P.underlying t = some (.slice e)) (hu : P.underlying u = some .string) (hi : (P.info? e).map (fun i => (i.zero, i.size, i.bytes)) = some (some (.int .u8 0), 1, 1))
  (v : Value) (n : Nat) (xs : List Value) (hs : a.eval sl = v) (hown : w.ownsRow base e 1 v n xs) (s : ByteArray) (hx : a.eval x = .string s) (hb : n + s.size ≤ 1000000000) (hbase : base ≤ w.heap.size)
  (h : ∀ v' w', w'.ownsRow base e 1 v' (n + s.size) (xs ++ Lib.strCells s) → w.grownBy w' v.ownBlock → (v'.ownBlock = v.ownBlock ∨ v'.ownBlock = some w.heap.size) → wpList P ops Q rest (a.put o.dst v') w') : wpList P ops Q (o :: rest) a w := by
 obtain ⟨i0, hi', hz0, hz1, hz2⟩ := info_parts hi
 refine wpList_plain hgd fun K hK => ?_
 obtain ⟨v', w', hr, h2, h3, h4⟩ := run_app_str (P := P) w base t u o.type e i0 ht hu hi' hz0 hz1 hz2 v n xs hown s hb hbase
 unfold Oper.wp execOp
 simp only [ho, resolve, invoke, builtin, Sem.run_bind, Sem.run_pure, Result.andThen_ok, List.map_toArray, List.map_cons, List.map_nil, hs, hx, hr]
 exact hK _ _ (h v' w' h2 h3 h4)
theorem own_ne_bk {w : World} {base n sz g : Nat} {e t : TypeId} {v : Value} {xs : List Value} {cs : Array Value} (h : w.ownsRow base e sz v n xs) (hb : Blk w g t cs) (ht : e ≠ t) : v.ownBlock ≠ some g := by
 intro hk
 obtain ⟨cs2, h2⟩ := own_obj h hk
 exact blk_ne_tyD h2 hb ht rfl
theorem info_psl : (Tryz.prog.info? 25).map (·.size) = some 1 := by kernel_rfl
theorem cellsU8 : Tryz.prog.cellsOf 5 = 1 := by kernel_rfl
section
variable {w0 W : World} {db : Nat} {v p : Value} {out : List UInt8} {dp xp : Value} {n : Int}
theorem DkA.cell0 (h : DkA w0 W db v p out dp xp n) : W.cell? ⟨db, 0, none⟩ = some p := h.blk.cell rfl
theorem DkA.cell1 (h : DkA w0 W db v p out dp xp n) : W.cell? ⟨db, 1, none⟩ = some v := h.blk.cell rfl
/-- A type of which neither a desk nor an image has a block. -/
def OtL (t : TypeId) : Prop := 148 ≠ t ∧ 206 ≠ t ∧ 113 ≠ t ∧ 5 ≠ t ∧ 214 ≠ t ∧ 302 ≠ t ∧ 284 ≠ t ∧ 282 ≠ t ∧ 240 ≠ t ∧ 37 ≠ t
instance (t : TypeId) : Decidable (OtL t) := by unfold OtL; infer_instance
/-- Boxes and loops stay. -/
structure KpL (W w' : World) : Prop where
 size : W.heap.size ≤ w'.heap.size
 blk : ∀ g t cs, Blk W g t cs → OtL t → Blk w' g t cs
 obj : ∀ (g : Nat) (o : Obj), W.heap[g]? = some o → o.isCells = false → (∀ es c, o ≠ .map es c) → w'.heap[g]? = some o
theorem KpL.refl (W : World) : KpL W W := ⟨Nat.le_refl _, fun _ _ _ h _ => h, fun _ _ h _ _ => h⟩
theorem KpL.trans {a b c : World} (h : KpL a b) (k : KpL b c) : KpL a c := ⟨Nat.le_trans h.size k.size, fun g t cs hb ht => k.blk g t cs (h.blk g t cs hb ht) ht, fun g o ho h1 h2 => k.obj g o (h.obj g o ho h1 h2) h1 h2⟩
theorem KpL.below {W w' : World} (h : Below W.heap.size W w') : KpL W w' := ⟨h.size, fun g t cs hb _ => hb.below h hb.lt, fun g o ho _ _ => (h.block g (Array.getElem?_eq_some_iff.1 ho).1).trans ho⟩
theorem KpL.tch {T : List Nat} {W w' : World} (hT : Tch T W w') (h1 : ∀ g t cs, Blk W g t cs → OtL t → g ∉ T) (h2 : ∀ (g : Nat) (o : Obj), W.heap[g]? = some o → o.isCells = false → (∀ es c, o ≠ .map es c) → g ∉ T) : KpL W w' :=
 ⟨hT.size, fun g t cs hb ht => hb.tch hT (h1 g t cs hb ht), fun g o ho hc hm => (hT.block g (Array.getElem?_eq_some_iff.1 ho).1 (h2 g o ho hc hm)).trans ho⟩
/-- .. where but one block turns, of a type that a desk or an image has. -/
theorem KpL.one {r : Nat} {t : TypeId} {cs : Array Value} {W w' : World} (hb : Blk W r t cs) (ht : ¬ OtL t) (hT : Tch [r] W w') : KpL W w' :=
 KpL.tch hT (fun g t2 cs2 hg h2 hm => by
  rw [List.mem_singleton.1 hm] at hg
  unfold Blk at hg hb
  rw [hb] at hg
  injection hg with hg
  injection hg with _ hg
  subst hg
  exact ht h2) (fun g o ho hc _ hm => by
  rw [List.mem_singleton.1 hm] at ho
  unfold Blk at hb
  rw [hb] at ho
  injection ho with ho
  subst ho
  cases hc)
/-- What a write leaves. -/
def WrtB (E : Value → World → Prop) (w0 : World) (db : Nat) (out : List UInt8) (dp xp : Value) (n : Int) (W : World) (w' : World) : Prop := ∃ v' p', DkA w0 w' db v' p' out dp xp n ∧ E v' w' ∧ KpL W w'
set_option maxRecDepth 100000 in
set_option maxHeartbeats 1000000 in
theorem dsk_write {E : Value → World → Prop} (hE : EnvOk E) (h : DkA w0 W db v p out dp xp n) (he : E v W) (s : List UInt8) (hs : s ≠ []) (hl : out.length + s.length ≤ 100000000) :
  Calls Tryz.prog 11 #[.pointer (some ⟨db, 0, none⟩), .string ⟨s.toArray⟩] W fun e w' => (∃ r, e = .returned r) ∧ WrtB E w0 db (out ++ s) dp xp n W w' := by
 have HE := yH hE
 have HL := yH (And.intro hs hl)
 have hc : Calls Tryz.prog 16 #[.pointer (some ⟨db, 0, none⟩)] W fun e w' => e = .returned (.tuple #[]) ∧ DkA w0 w' db v (.pointer (some ⟨db, 0, none⟩)) out dp xp n ∧ E v w' ∧ KpL W w' := by
  rcases h.self with hp | hp
  ·subst hp
   refine (dk_check_fresh db W h.cell0 (by have := h.blk; unfold Blk at this; simp [World.shape?, this]) (by have := h.blk; unfold Blk at this; simp [World.frozen?, this])).mono ?_
   rintro e w' ⟨rfl, rfl⟩
   have hT := Tch.one (grownBy_setCell' W db (.pointer (some ⟨db, 0, none⟩)))
   have hb := Blk.put h.blk 0 (.pointer (some ⟨db, 0, none⟩))
   exact ⟨rfl, h.setBlk hb hT (.inr rfl), hE.alien he h.alien hT, KpL.one h.blk (by decide) hT⟩
  ·subst hp
   refine (dk_check_used db W h.cell0).mono ?_
   rintro e w' ⟨rfl, rfl⟩
   exact ⟨rfl, h, he, KpL.refl _⟩
 have HC := yH hc
 clear hE h he hc hs hl
 go_enter Tryz.func11, Tryz.ntmps11
 go_wp2_with (first
  | (go_at_call 16; refine HC.out.mono ?_; rintro e w1 ⟨rfl, hD, hEv, hsz⟩; have D1 := yH hD; have E1 := yH hEv; have Z1 := yH hsz; have c1 := hD.cell1; clear hD hEv hsz)
  | (refine wpl_app_str rfl (.tmp 12) (.tmp 13) 25 9 (by rfl) w0.heap.size 5 Tryz.underlying25 Tryz.underlying9 infoByte v out.length (Lib.byteCells out) (by rfl) D1.out.own ⟨s.toArray⟩ (by rfl) (by rw [ba_len]; have := HL.out.2; omega) D1.out.low.size ?_; intro v2 w2 ho hg hn; obtain ⟨A2, k2, rfl, _⟩ := own_slice ho; have O2 := yH ho; have G2 := yH hg; have N2 := yH hn; have B2 := yH (D1.out.blk.grown hg (own_ne_bk D1.out.own D1.out.blk (by decide)).symm); clear ho hg hn; simp only [Act.put, yA, yB, yC])
  | (refine wpl_setD rfl 25 (.tmp 16) (.tmp 14) (by rfl) db 1 (.slice A2 (out.length + (⟨s.toArray⟩ : ByteArray).size) k2) (by rfl) (by rfl) _ _ B2.out info_psl (by show 1 < 5; omega) (by rfl) (by rfl) ?_; intro w3 hb hg hz; have B3 := yH hb; have G3 := yH hg; have Z3 := yH hz; clear hb hg hz; simp only [Act.put, yA, yB, yC]))
 go_ret2
 have hw1 := D1.out.low.size
 have hsz : (⟨s.toArray⟩ : ByteArray).size = s.length := ba_len s
 have hT3 := Tch.one G3.out
 have hv : ∀ k, v.ownBlock = some k → w0.heap.size ≤ k := fun k hk => by
  obtain ⟨_, h2⟩ := D1.out.own
  rcases h2 with ⟨rfl, _⟩ | ⟨g, cap, cur, rfl, a1, _⟩
  ·cases hk
  ·injection hk with hk
   simp only at hk
   omega
 have L2 : Below w0.heap.size w0 w2 := D1.out.low.grown G2.out hw1 hv
 have hE2 := HE.out.app E1.out D1.out.row G2.out N2.out (fun g hg => by
  obtain ⟨cs, hb⟩ := own_obj O2.out hg
  exact (Array.getElem?_eq_some_iff.1 hb).1)
 refine ⟨⟨_, rfl⟩, _, _, ⟨D1.out.ge, L2.trans (hT3.toBelow L2.size (fun k hk => by have := D1.out.ge; simp at hk; omega)), B3.out, ?_, .inr rfl, fun h => ?_⟩, HE.out.alien hE2 (.inl ⟨_, _, B2.out, by decide⟩) hT3, ?_⟩
 ·have h3 := own_keptR O2.out G3.out (fun b hb => by injection hb with hb; subst hb; exact own_ne_bk O2.out B2.out (by decide))
  rw [hsz, show Lib.strCells ⟨s.toArray⟩ = Lib.byteCells s from rfl, ← Lib.byteCells_append] at h3
  rw [List.length_append, hsz]
  exact h3
 ·have := List.append_eq_nil_iff.1 h
  exact absurd this.2 HL.out.1
 ·refine (Z1.out.trans ?_).trans (KpL.one B2.out (by decide) hT3)
  have hrow := D1.out.row
  cases hv2 : v.ownBlock with
  | none =>
   have hg := G2.out
   rw [hv2] at hg
   exact KpL.below (bl_n (Below.refl _ _) hg)
  | some g =>
   have hg := G2.out
   rw [hv2] at hg
   obtain ⟨cs, hb⟩ := hrow g hv2
   exact KpL.one hb (by decide) (Tch.one hg)
theorem freeze_obj (w : World) (p : Addr) (m : Nat) {k : Nat} {o : Obj} (h : w.heap[k]? = some o) (hk : p.block ≠ k) : (w.freeze p m).heap[k]? = some o := by
 unfold World.freeze
 split
 ·exact h
 ·simp only [Array.getElem?_modify]
  rw [if_neg hk]
  exact h
set_option maxRecDepth 100000 in
set_option maxHeartbeats 1000000 in
theorem dsk_string (h : DkA w0 W db v p out dp xp n) (hl : out.length ≤ 100000000) :
  Calls Tryz.prog 13 #[.pointer (some ⟨db, 0, none⟩)] W fun e w' => e = .returned (.string ⟨out.toArray⟩) ∧ Below w0.heap.size W w' ∧ ∀ (k : Nat) (o : Obj), W.heap[k]? = some o → o.isCells = false → w'.heap[k]? = some o := by
 have c1 : W.drew.cell? ⟨db, 1, none⟩ = some v := h.cell1
 have hge := h.low.size
 have hmx : Tryz.prog.follows .mixedOrders = true := by kernel_rfl
 by_cases h0 : out = []
 ·have hv := h.nn h0
  subst hv
  subst h0
  clear h
  have hUS : (Builtin.unsafeString_ #[50, 3] 9 #[.pointer none, .int .i64 0]).run Tryz.prog W.drew = .ok (.string .empty) W.drew := Lib.run_unsafeString_none _ _ _ _ _
  have hSD : (Builtin.unsafeSliceData_ #[25] 50 #[.slice none 0 0]).run Tryz.prog W.drew = .ok (.pointer none) W.drew := rfl
  go_enter Tryz.func13, Tryz.ntmps13
  go_wp2
  go_region_o
  all_goals (go_wp2; go_ret; exact ⟨rfl, Below.drew (Below.refl _ W), fun k o ho _ => ho⟩)
 ·have hl0 : out.length ≠ 0 := by simpa using h0
  have hown := h.own
  obtain ⟨g, cap, cur, rfl, hbg, hg, hnc, hcm, hcs, htake⟩ : ∃ g cap cur, v = .slice (some ⟨g, 0, none⟩) out.length cap ∧ w0.heap.size ≤ g ∧ W.heap[g]? = some (.cells cur 5 (0, 0)) ∧ out.length ≤ cap ∧ cap ≤ maxLen ∧ cur.size = cap * 1 ∧ cur.toList.take (out.length * 1) = Lib.byteCells out := by
   rcases hown.2 with ⟨_, hz⟩ | ⟨g, cap, cur, hv, r⟩
   ·exact absurd hz hl0
   ·exact ⟨g, cap, cur, hv, r⟩
  have hSD : (Builtin.unsafeSliceData_ #[25] 50 #[.slice (some ⟨g, 0, none⟩) out.length cap]).run Tryz.prog W.drew = .ok (.pointer (some ⟨g, 0, none⟩)) W.drew :=
   Lib.run_unsafeSliceData_row _ _ _ _ _ _ (by omega)
  have hUS : (Builtin.unsafeString_ #[50, 3] 9 #[.pointer (some ⟨g, 0, none⟩), .int .i64 out.length]).run Tryz.prog W.drew = .ok (.string ⟨out.toArray⟩) (W.drew.freeze ⟨g, 0, none⟩ out.length) := by
   refine Lib.run_unsafeString_row W.drew 50 3 9 5 Tryz.underlying50 cellsU8 g cur.size (by have hg' : W.drew.heap[g]? = some (.cells cur 5 (0, 0)) := hg; simp [World.shape?, hg']) out h0 (by omega) (by omega) ?_
   intro j x hx
   have := hown.cells (g := g) rfl j (.int .u8 x.toNat) (by simp [Lib.byteCells, hx])
   exact this
  have HNg := yH (show ∀ (k : Nat) (o : Obj), W.heap[k]? = some o → o.isCells = false → g ≠ k from fun k o ho hc e => by
   subst e
   rw [hg] at ho
   injection ho with ho
   subst ho
   cases hc)
  clear h hown htake hcs hcm hnc hg
  go_enter Tryz.func13, Tryz.ntmps13
  go_wp2
  go_region_o
  all_goals (go_wp2; go_ret; exact ⟨rfl, Lib.below_freeze (Below.drew (Below.refl _ W)) (p := ⟨g, 0, none⟩) hbg _, fun k o ho hc => freeze_obj W.drew ⟨g, 0, none⟩ _ ho (HNg.out k o ho hc)⟩)
end
end Go.Proofs.YtffalfacakdhkaaGreatDoor
