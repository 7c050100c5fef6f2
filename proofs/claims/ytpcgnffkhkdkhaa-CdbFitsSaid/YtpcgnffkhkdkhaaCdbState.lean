/-
  cdb: the state of Decode; blocks, any kind.
-/
import Derived.Test.YtpcgnffkhkdkhaaCdbBk28
import Derived.Test.YtpcgnffkhkdkhaaCdbBk88
import Derived.Test.YtpcgnffkhkdkhaaCdbBk2A
import Derived.Test.YtpcgnffkhkdkhaaCdbBk8A
import Derived.Test.YtpcgnffkhkdkhaaCdbBk41
import Derived.Test.YtpcgnffkhkdkhaaCdbBk93
import Derived.Test.YtpcgnffkhkdkhaaCdbBk89
import Derived.Test.YtpcgnffkhkdkhaaCdbBk35
import Derived.Test.YtpcgnffkhkdkhaaCdbBk91
import Derived.Test.YtpcgnffkhkdkhaaCdbBkO
import Derived.Laws.Tables
namespace Go.Proofs.Ytpcgnffkhkdkhaa
set_option linter.unusedVariables false
set_option linter.unusedSimpArgs false
open Go.RowKit

theorem blocks_any (b : List Nat) (hl : b.length = 16) (hb : ∀ c ∈ b, c < 256) (w : World) :
    Calls Try.prog 12 #[.agg (nv .u8 b)] w fun e w' => e = .returned (.tuple #[.agg (blocksP b).1.cells, .int .i64 ((blocksP b).2 : Nat)]) ∧ Below w.heap.size w w' := by
  by_cases h1 : b.getD 0 0 = 40
  · exact bk_28 b hl hb w h1
  by_cases h2 : b.getD 0 0 = 136
  · exact bk_88 b hl hb w h2
  by_cases h3 : b.getD 0 0 = 42
  · exact bk_2A b hl hb w h3
  by_cases h4 : b.getD 0 0 = 138
  · exact bk_8A b hl hb w h4
  by_cases h5 : b.getD 0 0 = 65
  · exact bk_41 b hl hb w h5
  by_cases h6 : b.getD 0 0 = 147
  · exact bk_93 b hl hb w h6
  by_cases h7 : b.getD 0 0 = 137
  · exact bk_89 b hl hb w h7
  by_cases h8 : b.getD 0 0 = 53
  · exact bk_35 b hl hb w h8
  by_cases h9 : b.getD 0 0 = 145
  · exact bk_91 b hl hb w h9
  refine bk_other b hl hb w ?_
  simp only [List.mem_cons, List.not_mem_nil, or_false, forall_eq_or_imp, forall_eq]
  exact ⟨h1, h2, h3, h4, h5, h6, h7, h8, h9⟩

theorem tk_one (t : TK) : t.cells.all (·.oneCell') = true := by simp [TK.cells, Value.oneCell']
theorem tk_info (t : TK) : (Try.prog.info? 32).map (·.size) = some t.cells.size := by kernel_rfl
theorem bk_start (w : World) (b : List Nat) : Bk w w.heap.size (w.heap.size + 1) (w.heap.size + 2) b (((w.alloc (.cells (nv .u8 b) 29)).alloc (.cells (({} : TK).cells) 32)).alloc (.cells (({} : TK).cells) 32)) {} := by
  refine ⟨((IsBlk.new w _ _).alloc _).alloc _, ?_, ?_, (((Below.refl _ _).alloc (Nat.le_refl _) _).alloc (by simp) _).alloc (by simp; omega) _, by omega, by omega, by omega, by omega, by omega, by omega⟩
  · have := IsBlk.new (w.alloc (.cells (nv .u8 b) 29)) (({} : TK).cells) 32
    rw [World.size_alloc] at this
    exact this.alloc _
  · have := IsBlk.new ((w.alloc (.cells (nv .u8 b) 29)).alloc (.cells (({} : TK).cells) 32)) (({} : TK).cells) 32
    rw [World.size_alloc, World.size_alloc] at this
    exact this
theorem bk_store {w W : World} {A R T : Nat} {b : List Nat} {t : TK} (h : Bk w A R T b W t) (u : TK) : Bk w A R T b (W.setRow T u.cells) u :=
  ⟨isBlk_setRowOther h.a (fun e => h.at_ e.symm) _, isBlk_setRowOther h.r (fun e => h.rt e.symm) _, isBlk_setRow h.t _, below_setRow h.bel _ h.ht _, h.ar, h.at_, h.rt, h.ha, h.hr, h.ht⟩
theorem bk_cell {w W : World} {A R T : Nat} {b : List Nat} {t u : TK} (h : Bk w A R T b W t) (i : Nat) (v : Value) (hu : t.cells.setIfInBounds i v = u.cells) : Bk w A R T b (W.setCell ⟨T, i, none⟩ v) u :=
  ⟨h.a.setOther _ _ h.at_, h.r.setOther _ _ h.rt, hu ▸ h.t.set i v, h.bel.setCell (p := ⟨T, i, none⟩) h.ht _, h.ar, h.at_, h.rt, h.ha, h.hr, h.ht⟩
theorem bk_below {w W W' : World} {A R T : Nat} {b : List Nat} {t : TK} (h : Bk w A R T b W t) (hb : Below W.heap.size W W') : Bk w A R T b W' t :=
  ⟨h.a.below hb h.a.lt, h.r.below hb h.r.lt, h.t.below hb h.t.lt, h.bel.trans (hb.mono h.bel.size), h.ar, h.at_, h.rt, h.ha, h.hr, h.ht⟩
theorem bk_drew {w W : World} {A R T : Nat} {b : List Nat} {t : TK} (h : Bk w A R T b W t) : Bk w A R T b W.drew t :=
  ⟨h.a.drew, h.r.drew, h.t.drew, h.bel.drew, h.ar, h.at_, h.rt, h.ha, h.hr, h.ht⟩
theorem bk_chain {w W : World} {A R T : Nat} {b : List Nat} {t : TK} (h : Bk w A R T b W t) (u : TK) (v0 v1 v2 v3 v4 v5 v6 v7 v8 v9 v10 v11 : Value) (hu : #[v0, v1, v2, v3, v4, v5, v6, v7, v8, v9, v10, v11] = u.cells) :
    Bk w A R T b ((((((((((((W.setCell ⟨T, 0, none⟩ v0).setCell ⟨T, 1, none⟩ v1).setCell ⟨T, 2, none⟩ v2).setCell ⟨T, 3, none⟩ v3).setCell ⟨T, 4, none⟩ v4).setCell ⟨T, 5, none⟩ v5).setCell ⟨T, 6, none⟩ v6).setCell ⟨T, 7, none⟩ v7).setCell ⟨T, 8, none⟩ v8).setCell ⟨T, 9, none⟩ v9).setCell ⟨T, 10, none⟩ v10).setCell ⟨T, 11, none⟩ v11) u :=
  ⟨((((((((((((h.a.setOther ⟨T, 0, none⟩ v0 h.at_).setOther ⟨T, 1, none⟩ v1 h.at_).setOther ⟨T, 2, none⟩ v2 h.at_).setOther ⟨T, 3, none⟩ v3 h.at_).setOther ⟨T, 4, none⟩ v4 h.at_).setOther ⟨T, 5, none⟩ v5 h.at_).setOther ⟨T, 6, none⟩ v6 h.at_).setOther ⟨T, 7, none⟩ v7 h.at_).setOther ⟨T, 8, none⟩ v8 h.at_).setOther ⟨T, 9, none⟩ v9 h.at_).setOther ⟨T, 10, none⟩ v10 h.at_).setOther ⟨T, 11, none⟩ v11 h.at_), ((((((((((((h.r.setOther ⟨T, 0, none⟩ v0 h.rt).setOther ⟨T, 1, none⟩ v1 h.rt).setOther ⟨T, 2, none⟩ v2 h.rt).setOther ⟨T, 3, none⟩ v3 h.rt).setOther ⟨T, 4, none⟩ v4 h.rt).setOther ⟨T, 5, none⟩ v5 h.rt).setOther ⟨T, 6, none⟩ v6 h.rt).setOther ⟨T, 7, none⟩ v7 h.rt).setOther ⟨T, 8, none⟩ v8 h.rt).setOther ⟨T, 9, none⟩ v9 h.rt).setOther ⟨T, 10, none⟩ v10 h.rt).setOther ⟨T, 11, none⟩ v11 h.rt), hu ▸ stored12 h.t v0 v1 v2 v3 v4 v5 v6 v7 v8 v9 v10 v11, ((((((((((((h.bel.setCell (p := ⟨T, 0, none⟩) h.ht v0).setCell (p := ⟨T, 1, none⟩) h.ht v1).setCell (p := ⟨T, 2, none⟩) h.ht v2).setCell (p := ⟨T, 3, none⟩) h.ht v3).setCell (p := ⟨T, 4, none⟩) h.ht v4).setCell (p := ⟨T, 5, none⟩) h.ht v5).setCell (p := ⟨T, 6, none⟩) h.ht v6).setCell (p := ⟨T, 7, none⟩) h.ht v7).setCell (p := ⟨T, 8, none⟩) h.ht v8).setCell (p := ⟨T, 9, none⟩) h.ht v9).setCell (p := ⟨T, 10, none⟩) h.ht v10).setCell (p := ⟨T, 11, none⟩) h.ht v11), h.ar, h.at_, h.rt, h.ha, h.hr, h.ht⟩
theorem isBlk_chain {W : World} {A T : Nat} {cs : Array Value} {t : TypeId} (h : IsBlk W A cs t) (hne : A ≠ T) (v0 v1 v2 v3 v4 v5 v6 v7 v8 v9 v10 v11 : Value) : IsBlk ((((((((((((W.setCell ⟨T, 0, none⟩ v0).setCell ⟨T, 1, none⟩ v1).setCell ⟨T, 2, none⟩ v2).setCell ⟨T, 3, none⟩ v3).setCell ⟨T, 4, none⟩ v4).setCell ⟨T, 5, none⟩ v5).setCell ⟨T, 6, none⟩ v6).setCell ⟨T, 7, none⟩ v7).setCell ⟨T, 8, none⟩ v8).setCell ⟨T, 9, none⟩ v9).setCell ⟨T, 10, none⟩ v10).setCell ⟨T, 11, none⟩ v11) A cs t :=
  ((((((((((((h.setOther ⟨T, 0, none⟩ v0 hne).setOther ⟨T, 1, none⟩ v1 hne).setOther ⟨T, 2, none⟩ v2 hne).setOther ⟨T, 3, none⟩ v3 hne).setOther ⟨T, 4, none⟩ v4 hne).setOther ⟨T, 5, none⟩ v5 hne).setOther ⟨T, 6, none⟩ v6 hne).setOther ⟨T, 7, none⟩ v7 hne).setOther ⟨T, 8, none⟩ v8 hne).setOther ⟨T, 9, none⟩ v9 hne).setOther ⟨T, 10, none⟩ v10 hne).setOther ⟨T, 11, none⟩ v11 hne)
end Go.Proofs.Ytpcgnffkhkdkhaa
