/-
  disk: a disk and the document's, side by side: one call of both.
-/
import Derived.Test.YtjmjfgbpjecgfaaDoorRdCrash
import Derived.Test.YtjmjfgbpjecgfaaDoorRdRead
import Derived.Test.YtjmjfgbpjecgfaaDoorDkN
import Derived.Test.YtjmjfgbpjecgfaaDoorDkArg
namespace Go.Proofs.YtjmjfgbpjecgfaaDoor
set_option linter.unusedVariables false
set_option linter.unusedSimpArgs false
open Go.RowKit

/-- The document's disk, all whose blocks are N's. -/
def RdN (N : Nat → Prop) (B : Nat) (w : World) (rb : Nat) (d : DK) : Prop := ∃ fb cap av wv, IsRd w B rb fb cap av wv d ∧ N rb ∧ N fb ∧ (∀ k, av.ownBlock = some k → N k) ∧ (∀ k, wv.ownBlock = some k → N k)
section
variable {N N' T : Nat → Prop} {B : Nat} {w w' : World} {db rb : Nat} {d : DK}
theorem DkN.but' (h : DkN N B w db d) (hb : But T w w') (hs : ∀ k, T k → N k) : DkN N B w' db d := by
  obtain ⟨fb, mb, cap, cv, h, n1, n2, n3, n4⟩ := h
  exact ⟨fb, mb, cap, cv, h.same hb (fun x => n1 (hs _ x)) (fun x => n2 (hs _ x)) (fun x => n3 (hs _ x)) (fun k hk x => n4 k hk (hs _ x)), n1, n2, n3, n4⟩
theorem DkN.widen' (h : DkN N B w db d) (hs : ∀ k, N' k → N k ∨ w.heap.size ≤ k) : DkN N' B w db d := by
  obtain ⟨fb, mb, cap, cv, h, n1, n2, n3, n4⟩ := h
  refine ⟨fb, mb, cap, cv, h, fun x => ?_, fun x => ?_, fun x => ?_, fun k hk x => ?_⟩
  · have := h.blk.lt; rcases hs _ x with y | y; exact n1 y; omega
  · have := h.fb_lt; rcases hs _ x with y | y; exact n2 y; omega
  · have := h.map.lt; rcases hs _ x with y | y; exact n3 y; omega
  · have := h.cache.lt k hk; rcases hs _ x with y | y; exact n4 k hk y; omega
theorem RdN.below (h : RdN N B w rb d) (hb : Below w.heap.size w w') : RdN N B w' rb d := by
  obtain ⟨fb, cap, av, wv, h, n⟩ := h
  exact ⟨fb, cap, av, wv, h.below hb, n⟩
theorem RdN.but (h : RdN N B w rb d) (hb : But T w w') (hs : ∀ k, N k → ¬ T k) : RdN N B w' rb d := by
  obtain ⟨fb, cap, av, wv, h, n1, n2, n3, n4⟩ := h
  exact ⟨fb, cap, av, wv, h.same hb (hs _ n1) (hs _ n2) (fun k hk => hs k (n3 k hk)) (fun k hk => hs k (n4 k hk)), n1, n2, n3, n4⟩
/-- More blocks, of those that stand. -/
theorem RdN.more (h : RdN N B w rb d) (hs : ∀ k, k < w.heap.size → N k → N' k) : RdN N' B w rb d := by
  obtain ⟨fb, cap, av, wv, h, n1, n2, n3, n4⟩ := h
  exact ⟨fb, cap, av, wv, h, hs _ h.blk.lt n1, hs _ h.fb_lt n2, fun k hk => hs k (h.at_.lt k hk) (n3 k hk), fun k hk => hs k (h.what.lt k hk) (n4 k hk)⟩
theorem DkN.base (h : DkN N B w db d) {B' : Nat} (hb : B' ≤ B) : DkN N B' w db d := by
  obtain ⟨fb, mb, cap, cv, h, n⟩ := h
  exact ⟨fb, mb, cap, cv, h.base_mono hb, n⟩
end

/-- Both, side by side; X's blocks are neither's. -/
def RI (X : Nat → Prop) (B : Nat) (w : World) (db rb : Nat) (d m : DK) : Prop := ∃ N : Nat → Prop, DkN N B w db d ∧ RdN (fun k => N k ∧ ¬ X k) B w rb m ∧ (∀ k, N k → k < w.heap.size) ∧ (∀ k, X k → N k)
def NoX (_ : Nat) : Prop := False
section
variable {X : Nat → Prop} {B : Nat} {w w' : World} {db rb : Nat} {d m : DK}
theorem RI.below (h : RI X B w db rb d m) (hb : Below w.heap.size w w') : RI X B w' db rb d m := by
  obtain ⟨N, h1, h2, h3, h4⟩ := h
  exact ⟨N, h1.below hb, h2.below hb, fun k hk => Nat.lt_of_lt_of_le (h3 k hk) hb.size, h4⟩
theorem RI.dk (h : RI X B w db rb d m) : Dk B w db d := by obtain ⟨N, h1, _⟩ := h; exact h1.dk
theorem RI.rd (h : RI X B w db rb d m) : ∃ fb cap av wv, IsRd w B rb fb cap av wv m := by obtain ⟨N, _, ⟨fb, cap, av, wv, h, _⟩, _⟩ := h; exact ⟨fb, cap, av, wv, h⟩
theorem RI.noX (h : RI X B w db rb d m) : RI NoX B w db rb d m := by
  obtain ⟨N, h1, h2, h3, h4⟩ := h
  exact ⟨N, h1, h2.more (fun k _ hk => ⟨hk.1, id⟩), h3, fun k hk => hk.elim⟩
/-- A block that was made behind both. -/
theorem RI.addX (h : RI NoX B w db rb d m) (hb : Below w.heap.size w w') {cb : Nat} (h1 : w.heap.size ≤ cb) (h2 : cb < w'.heap.size) : RI (fun k => k = cb) B w' db rb d m := by
  obtain ⟨N, q1, q2, q3, _⟩ := h
  refine ⟨fun k => N k ∨ k = cb, (q1.widen' (fun k hk => hk.imp id (fun e => by omega))).below hb, (q2.more (fun k hk hN => ⟨.inl hN.1, by omega⟩)).below hb, ?_, fun k hk => .inr hk⟩
  rintro k (hk | rfl)
  · exact Nat.lt_of_lt_of_le (q3 k hk) hb.size
  · exact h2
theorem RI.writeD (h : RI X B w db rb d m) (i : Int) (p : List Nat) (hp : p.length = 64) (hl : d.pend.length < 1000000) (hB : B ≤ w.heap.size) : Calls Tryd.prog 11 #[.pointer (some ⟨db, 0, none⟩), .int .i64 i, pgV p] w fun e w' => ∃ v, e = .returned v ∧ IsRes w' v (d.writeE i) ∧ RI X B w' db rb (d.write i p) m ∧ Below B w w' ∧ But (fun k => ¬ X k) w w' := by
  obtain ⟨N, q1, q2, q3, q4⟩ := h
  refine (q1.write q3 i p hp hl hB).mono ?_
  rintro e w' ⟨v, rfl, h1, h2, h3, h4⟩
  exact ⟨v, rfl, h1, ⟨N, h2, q2.but h4 (fun k hk hn => hn hk.1), fun k hk => Nat.lt_of_lt_of_le (q3 k hk) h4.size, q4⟩, h3, h4.mono (fun k hk hx => hk (q4 k hx))⟩
theorem RI.flushD (h : RI X B w db rb d m) (hl : d.pend.length < 1000001) (hB : B ≤ w.heap.size) : Calls Tryd.prog 12 #[.pointer (some ⟨db, 0, none⟩)] w fun e w' => ∃ v, e = .returned v ∧ IsRes w' v d.flushE ∧ RI X B w' db rb d.flush m ∧ Below B w w' ∧ But (fun k => ¬ X k) w w' := by
  obtain ⟨N, q1, q2, q3, q4⟩ := h
  refine (q1.flush hl hB).mono ?_
  rintro e w' ⟨v, rfl, h1, h2, h3, h4⟩
  exact ⟨v, rfl, h1, ⟨N, h2, q2.but h4 (fun k hk hn => hn hk.1), fun k hk => Nat.lt_of_lt_of_le (q3 k hk) h4.size, q4⟩, h3, h4.mono (fun k hk hx => hk (q4 k hx))⟩
theorem RI.fuelD (h : RI X B w db rb d m) (n : Int) (hn : n ≤ 9223372036854775807) (hB : B ≤ w.heap.size) : Calls Tryd.prog 16 #[.pointer (some ⟨db, 0, none⟩), .int .i64 n] w fun e w' => (∃ v, e = .returned v) ∧ RI X B w' db rb (d.setFuel n) m ∧ Below B w w' ∧ But (fun k => ¬ X k) w w' := by
  obtain ⟨N, ⟨fb, mb, cap, cv, h, n1, n2, n3, n4⟩, q2, q3, q4⟩ := h
  refine (fuel_any h n hn).mono ?_
  rintro e w' ⟨h0, h1, h2⟩
  have hne : ∀ k, N k → ¬ k = db := fun k hk e => n1 (e ▸ hk)
  exact ⟨h0, ⟨N, ⟨_, _, _, _, h1, n1, n2, n3, n4⟩, q2.but h2 (fun k hk => hne k hk.1), fun k hk => Nat.lt_of_lt_of_le (q3 k hk) h2.size, q4⟩, h2.below hB (fun k hk => by rw [hk]; exact h.bdb), h2.mono (fun k hk hx => hne k (q4 k hx) hk)⟩
/-- The document's disk has turned. -/
theorem RI.turnM {m' : DK} {fb cap : Nat} {av wv av' wv' : Value} {N T : Nat → Prop} (q1 : DkN N B w db d) (q3 : ∀ k, N k → k < w.heap.size) (q4 : ∀ k, X k → N k) (h : IsRd w B rb fb cap av wv m)
    (n1 : N rb ∧ ¬ X rb) (n2 : N fb ∧ ¬ X fb) (n3 : ∀ k, av.ownBlock = some k → N k ∧ ¬ X k) (n4 : ∀ k, wv.ownBlock = some k → N k ∧ ¬ X k) (h' : IsRd w' B rb fb cap av' wv' m') (hb : But T w w') (hT : ∀ k, T k → k = rb ∨ k = fb ∨ av.ownBlock = some k ∨ wv.ownBlock = some k)
    (ho : ∀ k, av'.ownBlock = some k ∨ wv'.ownBlock = some k → av.ownBlock = some k ∨ wv.ownBlock = some k ∨ w.heap.size ≤ k) (hB : B ≤ w.heap.size) : RI X B w' db rb d m' ∧ Below B w w' ∧ But (fun k => ¬ X k) w w' := by
  have hTN : ∀ k, T k → N k ∧ ¬ X k := fun k hk => by
    rcases hT k hk with rfl | rfl | e | e
    · exact n1
    · exact n2
    · exact n3 k e
    · exact n4 k e
  have hTB : ∀ k, T k → B ≤ k := fun k hk => by
    rcases hT k hk with rfl | rfl | e | e
    · exact h.brb
    · exact h.fb_base
    · exact h.at_.base_le k e
    · exact h.what.base_le k e
  have hX : ∀ k, w.heap.size ≤ k → ¬ X k := fun k hk hx => by have := q3 k (q4 k hx); omega
  have key : ∀ k, k < w'.heap.size → (av.ownBlock = some k ∨ wv.ownBlock = some k ∨ w.heap.size ≤ k) → (N k ∨ (w.heap.size ≤ k ∧ k < w'.heap.size)) ∧ ¬ X k := fun k hkl hk => by
    rcases hk with e | e | e
    · exact ⟨.inl (n3 k e).1, (n3 k e).2⟩
    · exact ⟨.inl (n4 k e).1, (n4 k e).2⟩
    · exact ⟨.inr ⟨e, hkl⟩, hX k e⟩
  refine ⟨⟨fun k => N k ∨ (w.heap.size ≤ k ∧ k < w'.heap.size), ?_, ⟨fb, cap, av', wv', h', ⟨.inl n1.1, n1.2⟩, ⟨.inl n2.1, n2.2⟩, fun k hk => key k (h'.at_.lt k hk) (ho k (.inl hk)), fun k hk => key k (h'.what.lt k hk) (ho k (.inr hk))⟩, ?_, fun k hk => .inl (q4 k hk)⟩, hb.below hB hTB, hb.mono (fun k hk => (hTN k hk).2)⟩
  · exact ((q1.widen' (N' := fun k => N k ∨ w.heap.size ≤ k) (fun k hk => hk)).but' hb (fun k hk => .inl (hTN k hk).1)).fewer (fun k hk => hk.imp id (fun e => e.1))
  · rintro k (hk | hk)
    · exact Nat.lt_of_lt_of_le (q3 k hk) hb.size
    · exact hk.2
theorem RI.writeM (h : RI X B w db rb d m) (i : Int) (p : List Nat) (hp : p.length = 64) (hl : m.pend.length < 1000000) (hB : B ≤ w.heap.size) : Calls Tryd.prog 26 #[.pointer (some ⟨rb, 0, none⟩), .int .i64 i, pgV p] w fun e w' => e = .returned (.int .i64 ((m.writeE i : Nat) : Int)) ∧ RI X B w' db rb d (m.write i p) ∧ Below B w w' ∧ But (fun k => ¬ X k) w w' := by
  obtain ⟨N, q1, ⟨fb, cap, av, wv, h, n1, n2, n3, n4⟩, q3, q4⟩ := h
  refine (ref_write h i p hp hl hB).mono ?_
  rintro e w' ⟨rfl, av', wv', h', hb, ho⟩
  exact ⟨rfl, RI.turnM q1 q3 q4 h n1 n2 n3 n4 h' hb (fun k hk => hk.imp id (fun e => .inr e)) ho hB⟩
theorem RI.flushM (h : RI X B w db rb d m) (hl : m.pend.length < 1000001) (hB : B ≤ w.heap.size) : Calls Tryd.prog 27 #[.pointer (some ⟨rb, 0, none⟩)] w fun e w' => e = .returned (.int .i64 ((m.flushE : Nat) : Int)) ∧ RI X B w' db rb d m.flush ∧ Below B w w' ∧ But (fun k => ¬ X k) w w' := by
  obtain ⟨N, q1, ⟨fb, cap, av, wv, h, n1, n2, n3, n4⟩, q3, q4⟩ := h
  refine (ref_flush h hl).mono ?_
  rintro e w' ⟨rfl, av', wv', h', hb, ho⟩
  exact ⟨rfl, RI.turnM q1 q3 q4 h n1 n2 n3 n4 h' hb (fun k hk => hk.imp id (fun e => .inl e)) (fun k hk => (ho k hk).imp id .inl) hB⟩
theorem RI.fuelM (h : RI X B w db rb d m) (n : Int) (hn : n ≤ 9223372036854775807) (hB : B ≤ w.heap.size) : RI X B (w.setCell ⟨rb, 3, none⟩ (.int .i64 (max n (-1)))) db rb d (m.setFuel n) ∧ Below B w (w.setCell ⟨rb, 3, none⟩ (.int .i64 (max n (-1)))) := by
  obtain ⟨N, q1, ⟨fb, cap, av, wv, h, n1, n2, n3, n4⟩, q3, q4⟩ := h
  have hb : But (fun k => k = rb) w (w.setCell ⟨rb, 3, none⟩ (.int .i64 (max n (-1)))) := (But.refl (fun k => k = rb) w).setCell (p := ⟨rb, 3, none⟩) rfl _
  have h' : IsRd (w.setCell ⟨rb, 3, none⟩ (.int .i64 (max n (-1)))) B rb fb cap av wv (m.setFuel n) := h.turn rfl rfl (by show -1 ≤ max n (-1); omega) (by show max n (-1) ≤ _; omega) (h.blk.set 3 _) hb
  have := RI.turnM (X := X) q1 q3 q4 h n1 n2 n3 n4 h' hb (fun k hk => .inl hk) (fun k hk => hk.imp id .inl) hB
  exact ⟨this.1, this.2.1⟩
/-- Two disks just made, one behind the other. -/
theorem RI.begin {w1 w2 : World} {B0 fb cap : Nat} {av wv : Value} (h1 : Dk B0 w1 db d) (hB0 : B ≤ B0) (h2 : IsRd w2 w1.heap.size rb fb cap av wv m) (hb : Below w1.heap.size w1 w2) (hB : B ≤ w1.heap.size) : RI NoX B w2 db rb d m := by
  refine ⟨fun k => w1.heap.size ≤ k ∧ k < w2.heap.size, ((h1.keep.base hB0).fewer (fun k hk => hk.1)).below hb, ⟨fb, cap, av, wv, h2.base_mono hB, ?_, ?_, fun k hk => ?_, fun k hk => ?_⟩, fun k hk => hk.2, fun k hk => hk.elim⟩
  · exact ⟨⟨h2.brb, h2.blk.lt⟩, id⟩
  · exact ⟨⟨h2.fb_base, h2.fb_lt⟩, id⟩
  · exact ⟨⟨h2.at_.base_le k hk, h2.at_.lt k hk⟩, id⟩
  · exact ⟨⟨h2.what.base_le k hk, h2.what.lt k hk⟩, id⟩
end
/-- How much a disk has at most. -/
def Has (n k : Nat) (d : DK) : Prop := d.firm.length = n ∧ d.pend.length ≤ k
theorem Has.more {n k m : Nat} {d : DK} (h : Has n k d) (hk : k ≤ m) : Has n m d := ⟨h.1, Nat.le_trans h.2 hk⟩
theorem has_write {n k : Nat} {d : DK} (h : Has n k d) (i : Int) (p : List Nat) : Has n (k + 1) (d.write i p) := by
  obtain ⟨f1, f2⟩ := step_firm d
  unfold DK.write
  split
  · exact h.more (by omega)
  · split
    · exact h.more (by omega)
    · split
      · exact ⟨by show d.step.firm.length = n; rw [f1]; exact h.1, by show (d.pend ++ [_]).length ≤ _; simp; exact h.2⟩
      · exact ⟨by rw [f1]; exact h.1, by rw [f2]; have := h.2; omega⟩
theorem has_flush {n k : Nat} {d : DK} (h : Has n k d) : Has n (k + 1) d.flush := by
  obtain ⟨f1, f2⟩ := step_firm d
  unfold DK.flush
  split
  · exact ⟨by show d.cur.length = n; rw [cur_length]; exact h.1, Nat.zero_le _⟩
  · exact ⟨by rw [f1]; exact h.1, by rw [f2]; have := h.2; omega⟩
theorem has_fuel {n k : Nat} {d : DK} (h : Has n k d) (i : Int) : Has n (k + 1) (d.setFuel i) := ⟨h.1, Nat.le_succ_of_le h.2⟩
theorem has_crash {n k : Nat} {d : DK} (h : Has n k d) (p : List Int) : Has n (k + 1) (d.crash p) := ⟨by show (applyP _ _).length = n; rw [applyP_length]; exact h.1, Nat.zero_le _⟩
end Go.Proofs.YtjmjfgbpjecgfaaDoor
