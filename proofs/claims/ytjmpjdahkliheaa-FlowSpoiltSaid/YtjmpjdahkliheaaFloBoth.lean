/-
  flow: the program's flow and the reference's, side by side.
-/
import Derived.Test.YtjmpjdahkliheaaFloCome2
import Derived.Test.YtjmpjdahkliheaaFloAskR
import Derived.Test.YtjmpjdahkliheaaFloDone
import Derived.Test.YtjmpjdahkliheaaFloNewR
namespace Go.Proofs.Ytjmpjdahkliheaa
set_option linter.unusedVariables false
set_option linter.unusedSimpArgs false
open Go.RowKit

section
variable {w : World} {base fb : Nat} {v : Value} {burst need : Int} {s : FS}
/-- What Ask answers. -/
def askV (s : FS) (burst need : Int) : Value :=
  bif okA s burst need then .tuple #[.int .u32 s.turn, .agg #[.int .i64 s.data.length, .int .i64 (lenA s burst need), .bool false], .bool true]
  else .tuple #[.int .u32 0, .agg #[.int .i64 0, .int .i64 0, .bool false], .bool false]

theorem ask_any (h : IsFlow w base fb v burst need s) :
    Calls Try.prog 14 #[.pointer (some ⟨fb, 0, none⟩)] w fun e w' => e = .returned (askV s burst need) ∧ IsFlow w' base fb v burst need (askS s burst need) ∧ But (fun k => k = fb) w w' := by
  have hlt := h.lt
  have hfine := h.fine.ask burst
  have hh := h
  obtain ⟨⟨d0, d1, d2, d3, d5, d6, d7, ak, hk, ha⟩, ho, hn, hf, hs⟩ := h
  obtain ⟨a, cap, rfl, _⟩ := ho.form
  obtain ⟨D, fin, sn', turn, bad⟩ := s
  have hl := hs.len
  have hn0 := hs.n0
  refine ask_walk D fin sn' turn ak burst need bad _ a cap _ hk rfl rfl rfl rfl rfl rfl rfl rfl hl hn0 hs.n1 hs.turn0 hs.turn1 ?_ ?_
  · refine fun hok W hW => ⟨by simp [askV, hok], ?_, But.of_below hW (Nat.le_refl _)⟩
    rw [show askS ⟨D, fin, sn', turn, bad⟩ burst need = ⟨D, fin, sn', turn, bad⟩ by simp [askS, hok]]
    exact hh.but (S := fun _ => False) (But.of_below hW (Nat.le_refl _)) (fun h => h) (fun _ _ h => h)
  · refine fun hok W hW hb => ⟨by simp [askV, hok, lenA], ?_, hW⟩
    have hkk := hok
    simp only [okA, Bool.and_eq_true, decide_eq_true_eq] at hkk
    obtain ⟨⟨⟨_, k2⟩, k3⟩, k4⟩ := hkk
    rw [show askS ⟨D, fin, sn', turn, bad⟩ burst need = ⟨D, D.length + lenA ⟨D, fin, sn', turn, bad⟩ burst need, 0, (turn + 1) % 4294967296, bad⟩ by simp [askS, hok]] at hfine ⊢
    have hfin : 0 ≤ (D.length : Int) + lenA ⟨D, fin, sn', turn, bad⟩ burst need := by have k3' : (D.length : Int) < need := k3; simp [lenA]; omega
    refine ⟨⟨d0, d1, d2, d3, d5, d6, d7, _, ?_, fun _ => rfl⟩, hW.own ho (fun k hk' e => hn (by rw [hk', e])), hn, hf, hfine⟩
    simp only [hfin, decide_true]
    exact hb
theorem askR_any (h : IsFlowR w base fb v burst need s) :
    Calls Try.prog 15 #[.pointer (some ⟨fb, 0, none⟩)] w fun e w' => e = .returned (askV s burst need) ∧ IsFlowR w' base fb v burst need (askS s burst need) ∧ But (fun k => k = fb) w w' := by
  have hlt := h.lt
  have hfine := h.fine.ask burst
  have hh := h
  obtain ⟨⟨d0, d1, d2, d3, d5, d6, d7, hk⟩, ho, hn, hf, hs⟩ := h
  obtain ⟨a, cap, rfl, _⟩ := ho.form
  obtain ⟨D, fin, sn', turn, bad⟩ := s
  have hl := hs.len
  have hn0 := hs.n0
  refine askR_walk D fin sn' turn burst need bad _ a cap _ hk rfl rfl rfl rfl rfl rfl rfl hl hn0 hs.n1 hs.turn0 hs.turn1 ?_ ?_
  · refine fun hok W hW => ⟨by simp [askV, hok], ?_, But.of_below hW (Nat.le_refl _)⟩
    rw [show askS ⟨D, fin, sn', turn, bad⟩ burst need = ⟨D, fin, sn', turn, bad⟩ by simp [askS, hok]]
    exact hh.but (S := fun _ => False) (But.of_below hW (Nat.le_refl _)) (fun h => h) (fun _ _ h => h)
  · refine fun hok W hW hb => ⟨by simp [askV, hok, lenA], ?_, hW⟩
    rw [show askS ⟨D, fin, sn', turn, bad⟩ burst need = ⟨D, D.length + lenA ⟨D, fin, sn', turn, bad⟩ burst need, 0, (turn + 1) % 4294967296, bad⟩ by simp [askS, hok]] at hfine ⊢
    exact ⟨⟨d0, d1, d2, d3, d5, d6, d7, hb⟩, hW.own ho (fun k hk' e => hn (by rw [hk', e])), hn, hf, hfine⟩
end

/-- Two flows, and a block beside them. -/
structure Both (B : Nat) (w0 w : World) (fb rb pb : Nat) (v u : Value) (burst need : Int) (s t : FS) (cs : Array Value) (tc : TypeId) : Prop where
  f : IsFlow w B fb v burst need s
  r : IsFlowR w B rb u burst need t
  p : IsBlk w pb cs tc
  bel : Below B w0 w
  hB : B ≤ w0.heap.size
  d1 : fb ≠ rb
  d2 : fb ≠ pb
  d3 : rb ≠ pb
  e1 : v.ownBlock ≠ some rb
  e2 : v.ownBlock ≠ some pb
  e3 : u.ownBlock ≠ some fb
  e4 : u.ownBlock ≠ some pb
  e5 : ∀ k, v.ownBlock = some k → u.ownBlock ≠ some k

section
variable {B : Nat} {w0 w : World} {fb rb pb : Nat} {v u : Value} {burst need : Int} {s t : FS} {cs : Array Value} {tc : TypeId}

theorem Both.drewN (h : Both B w0 w fb rb pb v u burst need s t cs tc) (n : Nat) : Both B w0 (w.drewN n) fb rb pb v u burst need s t cs tc :=
  ⟨h.f.but ((But.refl (fun _ => False) w).drewN n) (fun h => h) (fun _ _ h => h), h.r.but ((But.refl (fun _ => False) w).drewN n) (fun h => h) (fun _ _ h => h), h.p, h.bel.drewN' n, h.hB, h.d1, h.d2, h.d3, h.e1, h.e2, h.e3, h.e4, h.e5⟩
theorem Both.drew (h : Both B w0 w fb rb pb v u burst need s t cs tc) : Both B w0 w.drew fb rb pb v u burst need s t cs tc := h.drewN 1
theorem Both.below {w' : World} (h : Both B w0 w fb rb pb v u burst need s t cs tc) (hb : Below w.heap.size w w') : Both B w0 w' fb rb pb v u burst need s t cs tc :=
  ⟨h.f.but (S := fun _ => False) (But.of_below hb (Nat.le_refl _)) (fun h => h) (fun _ _ h => h), h.r.but (S := fun _ => False) (But.of_below hb (Nat.le_refl _)) (fun h => h) (fun _ _ h => h),
    h.p.below hb h.p.lt, h.bel.trans (hb.mono (Nat.le_trans h.hB h.bel.size)), h.hB, h.d1, h.d2, h.d3, h.e1, h.e2, h.e3, h.e4, h.e5⟩
/-- Another block beside them: a new one. -/
theorem Both.copy (h : Both B w0 w fb rb pb v u burst need s t cs tc) (cs' : Array Value) (tc' : TypeId) : Both B w0 (w.alloc (.cells cs' tc')) fb rb w.heap.size v u burst need s t cs' tc' := by
  have h' := h.below (w' := w.alloc (.cells cs' tc')) ((Below.refl _ _).alloc (Nat.le_refl _) _)
  have hf := h.f.lt
  have hr := h.r.lt
  exact ⟨h'.f, h'.r, IsBlk.new w cs' tc', h'.bel, h'.hB, h.d1, by omega, by omega, h.e1, fun e => by have := h.f.own.lt _ e; omega, h.e3, fun e => by have := h.r.own.lt _ e; omega, h.e5⟩

theorem moved_other {w : World} {v v' : Value} {b : Nat} (h : Moved w v v') (hn : v.ownBlock ≠ some b) (hb : b < w.heap.size) : v'.ownBlock ≠ some b := moved_ne h hn hb

theorem Both.come1 (h : Both B w0 w fb rb pb v u burst need s t cs tc) (sn at_ : Int) (A : Option Addr) (m : List Nat) (c : Nat) (final : Bool) (hm : IsBytes w A m) (hc0 : A = none → c = 0) (hl1 : s.data.length ≤ 100000) (hl2 : m.length ≤ 100000) :
    Calls Try.prog 16 #[.pointer (some ⟨fb, 0, none⟩), .int .u32 sn, .int .i64 at_, .slice A m.length c, .bool final] w fun e w' => ∃ v', e = .returned (.bool (okC s sn at_ m.length final)) ∧ Both B w0 w' fb rb pb v' u burst need (comeS s sn at_ m final) t cs tc := by
  refine (come_any h.f sn at_ A m c final hm hc0 hl1 hl2).mono ?_
  rintro e w' ⟨v', rfl, hf, hb, hv⟩
  have hp := h.p.lt
  have hr := h.r.lt
  refine ⟨v', rfl, hf, h.r.but hb ?_ ?_, hb.blk h.p ?_, h.bel.trans (hb.below (Nat.le_trans h.hB h.bel.size) ?_), h.hB, h.d1, h.d2, h.d3, moved_ne hv h.e1 hr, moved_ne hv h.e2 hp, h.e3, h.e4, ?_⟩
  · rintro (e | e)
    · exact h.d1 e.symm
    · exact h.e1 e
  · rintro k hk (e | e)
    · exact h.e3 (by rw [hk, e])
    · exact h.e5 k e hk
  · rintro (e | e)
    · exact h.d2 e.symm
    · exact h.e2 e
  · rintro k (rfl | e)
    · exact h.f.hfb
    · exact h.f.own.base_le k e
  · intro k hk hk2
    rcases hv with e | e
    · exact h.e5 k (by rw [← e, hk]) hk2
    · rw [e] at hk
      have := h.r.own.lt k hk2
      cases hk
      omega
theorem Both.come2 (h : Both B w0 w fb rb pb v u burst need s t cs tc) (sn at_ : Int) (A : Option Addr) (m : List Nat) (c : Nat) (final : Bool) (hm : IsBytes w A m) (hc0 : A = none → c = 0) (hl1 : t.data.length ≤ 100000) (hl2 : m.length ≤ 100000) :
    Calls Try.prog 17 #[.pointer (some ⟨rb, 0, none⟩), .int .u32 sn, .int .i64 at_, .slice A m.length c, .bool final] w fun e w' => ∃ u', e = .returned (.bool (okC t sn at_ m.length final)) ∧ Both B w0 w' fb rb pb v u' burst need s (comeS t sn at_ m final) cs tc := by
  refine (comeR_any h.r sn at_ A m c final hm hc0 hl1 hl2).mono ?_
  rintro e w' ⟨u', rfl, hf, hb, hv⟩
  have hp := h.p.lt
  have hr := h.f.lt
  refine ⟨u', rfl, h.f.but hb ?_ ?_, hf, hb.blk h.p ?_, h.bel.trans (hb.below (Nat.le_trans h.hB h.bel.size) ?_), h.hB, h.d1, h.d2, h.d3, h.e1, h.e2, moved_ne hv h.e3 hr, moved_ne hv h.e4 hp, ?_⟩
  · rintro (e | e)
    · exact h.d1 e
    · exact h.e3 e
  · rintro k hk (e | e)
    · exact h.e1 (by rw [hk, e])
    · exact h.e5 k hk e
  · rintro (e | e)
    · exact h.d3 e.symm
    · exact h.e4 e
  · rintro k (rfl | e)
    · exact h.r.hfb
    · exact h.r.own.base_le k e
  · intro k hk hk2
    rcases hv with e | e
    · exact h.e5 k hk (by rw [← e, hk2])
    · rw [e] at hk2
      have := h.f.own.lt k hk
      cases hk2
      omega
theorem Both.ask1 (h : Both B w0 w fb rb pb v u burst need s t cs tc) :
    Calls Try.prog 14 #[.pointer (some ⟨fb, 0, none⟩)] w fun e w' => e = .returned (askV s burst need) ∧ Both B w0 w' fb rb pb v u burst need (askS s burst need) t cs tc := by
  refine (ask_any h.f).mono ?_
  rintro e w' ⟨rfl, hf, hb⟩
  exact ⟨rfl, hf, h.r.but hb h.d1.symm (fun k hk e => h.e3 (by rw [hk, e])), hb.blk h.p h.d2.symm, h.bel.trans (hb.below (Nat.le_trans h.hB h.bel.size) (fun k hk => by subst hk; exact h.f.hfb)), h.hB, h.d1, h.d2, h.d3, h.e1, h.e2, h.e3, h.e4, h.e5⟩
theorem Both.ask2 (h : Both B w0 w fb rb pb v u burst need s t cs tc) :
    Calls Try.prog 15 #[.pointer (some ⟨rb, 0, none⟩)] w fun e w' => e = .returned (askV t burst need) ∧ Both B w0 w' fb rb pb v u burst need s (askS t burst need) cs tc := by
  refine (askR_any h.r).mono ?_
  rintro e w' ⟨rfl, hf, hb⟩
  exact ⟨rfl, h.f.but hb h.d1 (fun k hk e => h.e1 (by rw [hk, e])), hf, hb.blk h.p h.d3.symm, h.bel.trans (hb.below (Nat.le_trans h.hB h.bel.size) (fun k hk => by subst hk; exact h.r.hfb)), h.hB, h.d1, h.d2, h.d3, h.e1, h.e2, h.e3, h.e4, h.e5⟩
theorem Both.done1 (h : Both B w0 w fb rb pb v u burst need s t cs tc) :
    Calls Try.prog 18 #[.pointer (some ⟨fb, 0, none⟩)] w fun e w' => e = .returned (.bool (doneB s need)) ∧ Both B w0 w' fb rb pb v u burst need s t cs tc := by
  refine (done_any h.f).mono ?_
  rintro e w' ⟨rfl, n, rfl⟩
  exact ⟨rfl, h.drewN n⟩
theorem Both.done2 (h : Both B w0 w fb rb pb v u burst need s t cs tc) :
    Calls Try.prog 19 #[.pointer (some ⟨rb, 0, none⟩)] w fun e w' => e = .returned (.bool (doneB t need)) ∧ Both B w0 w' fb rb pb v u burst need s t cs tc := by
  refine (doneR_any h.r).mono ?_
  rintro e w' ⟨rfl, n, rfl⟩
  exact ⟨rfl, h.drewN n⟩
theorem Both.data1 (h : Both B w0 w fb rb pb v u burst need s t cs tc) (hl : s.data.length ≤ 100000) :
    Calls Try.prog 20 #[.pointer (some ⟨fb, 0, none⟩)] w fun e w' => ∃ x, e = .returned x ∧ Own w' w.heap.size x s.data ∧ Both B w0 w' fb rb pb v u burst need s t cs tc := by
  refine (data_any h.f hl).mono ?_
  rintro e w' ⟨x, rfl, ho, hb⟩
  exact ⟨x, rfl, ho, h.below hb⟩
theorem Both.come1' (h : Both B w0 w fb rb pb v u burst need s t cs tc) (sn at_ : Int) (A : Option Addr) (m : List Nat) (n c : Nat) (final : Bool) (hn : n = m.length) (hm : IsBytes w A m) (hc0 : A = none → c = 0) (hl1 : s.data.length ≤ 100000) (hl2 : m.length ≤ 100000) :
    Calls Try.prog 16 #[.pointer (some ⟨fb, 0, none⟩), .int .u32 sn, .int .i64 at_, .slice A n c, .bool final] w fun e w' => ∃ v', e = .returned (.bool (okC s sn at_ m.length final)) ∧ Both B w0 w' fb rb pb v' u burst need (comeS s sn at_ m final) t cs tc := by
  subst hn; exact h.come1 sn at_ A m c final hm hc0 hl1 hl2
theorem Both.come2' (h : Both B w0 w fb rb pb v u burst need s t cs tc) (sn at_ : Int) (A : Option Addr) (m : List Nat) (n c : Nat) (final : Bool) (hn : n = m.length) (hm : IsBytes w A m) (hc0 : A = none → c = 0) (hl1 : t.data.length ≤ 100000) (hl2 : m.length ≤ 100000) :
    Calls Try.prog 17 #[.pointer (some ⟨rb, 0, none⟩), .int .u32 sn, .int .i64 at_, .slice A n c, .bool final] w fun e w' => ∃ u', e = .returned (.bool (okC t sn at_ m.length final)) ∧ Both B w0 w' fb rb pb v u' burst need s (comeS t sn at_ m final) cs tc := by
  subst hn; exact h.come2 sn at_ A m c final hm hc0 hl1 hl2
/-- Ask, where the answer is known. -/
theorem Both.ask1' (h : Both B w0 w fb rb pb v u burst need s t cs tc) (ok : Bool) (sn at_ n : Int) (hv : askV s burst need = .tuple #[.int .u32 sn, .agg #[.int .i64 at_, .int .i64 n, .bool false], .bool ok]) :
    Calls Try.prog 14 #[.pointer (some ⟨fb, 0, none⟩)] w fun e w' => e = .returned (.tuple #[.int .u32 sn, .agg #[.int .i64 at_, .int .i64 n, .bool false], .bool ok]) ∧ Both B w0 w' fb rb pb v u burst need (askS s burst need) t cs tc := by
  rw [← hv]; exact h.ask1
theorem Both.ask2' (h : Both B w0 w fb rb pb v u burst need s t cs tc) (ok : Bool) (sn at_ n : Int) (hv : askV t burst need = .tuple #[.int .u32 sn, .agg #[.int .i64 at_, .int .i64 n, .bool false], .bool ok]) :
    Calls Try.prog 15 #[.pointer (some ⟨rb, 0, none⟩)] w fun e w' => e = .returned (.tuple #[.int .u32 sn, .agg #[.int .i64 at_, .int .i64 n, .bool false], .bool ok]) ∧ Both B w0 w' fb rb pb v u burst need s (askS t burst need) cs tc := by
  rw [← hv]; exact h.ask2
theorem askV_form (s : FS) (burst need : Int) : ∃ ok sn at_ n, askV s burst need = .tuple #[.int .u32 sn, .agg #[.int .i64 at_, .int .i64 n, .bool false], .bool ok] := by
  unfold askV
  cases okA s burst need
  · exact ⟨_, _, _, _, rfl⟩
  · exact ⟨_, _, _, _, rfl⟩
end
end Go.Proofs.Ytjmpjdahkliheaa
