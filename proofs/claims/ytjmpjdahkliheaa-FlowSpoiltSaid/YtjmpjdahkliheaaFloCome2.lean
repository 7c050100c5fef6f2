/-
  flow: Come, told on a flow.
-/
import Derived.Test.YtjmpjdahkliheaaFloCome
import Derived.Test.YtjmpjdahkliheaaFloComeR
namespace Go.Proofs.Ytjmpjdahkliheaa
set_option linter.unusedVariables false
set_option linter.unusedSimpArgs false
open Go.RowKit

section
variable {w : World} {base fb : Nat} {v : Value} {burst need : Int} {s : FS}

theorem moved_ne {w : World} {v v' : Value} {b : Nat} (h : Moved w v v') (hn : v.ownBlock ≠ some b) (hb : b < w.heap.size) : v'.ownBlock ≠ some b := by
  rcases h with h | h
  · rw [h]; exact hn
  · rw [h]; intro e; cases e; omega

theorem come_any (h : IsFlow w base fb v burst need s) (sn at_ : Int) (A : Option Addr) (m : List Nat) (c : Nat) (final : Bool) (hm : IsBytes w A m) (hc0 : A = none → c = 0) (hl1 : s.data.length ≤ 100000) (hl2 : m.length ≤ 100000) :
    Calls Try.prog 16 #[.pointer (some ⟨fb, 0, none⟩), .int .u32 sn, .int .i64 at_, .slice A m.length c, .bool final] w fun e w' => ∃ v', e = .returned (.bool (okC s sn at_ m.length final)) ∧ IsFlow w' base fb v' burst need (comeS s sn at_ m final) ∧ But (FlowS fb v) w w' ∧ Moved w v v' := by
  have hlt := h.lt
  have hfine := h.fine.come sn at_ m final
  obtain ⟨⟨d0, d1, d2, d3, d5, d6, d7, ak, hk, ha⟩, ho, hn, hf, hs⟩ := h
  obtain ⟨D, fin, sn', turn, bad⟩ := s
  have hoth : ∀ {w1 : World} {v1 : Value} {l : List Nat} {w2 : World}, But (fun k => k = fb) w1 w2 → Own w1 base v1 l → v1.ownBlock ≠ some fb → Own w2 base v1 l := fun hb ho hn => hb.own ho (fun k hk' e => hn (by rw [hk', e]))
  refine come_walk D fin sn' turn ak bad sn at_ A m c final _ _ hk rfl rfl rfl rfl rfl rfl ho hn ha hs.sn0 hs.sn1 hs.turn0 m.length (Lib.hid rfl) hm hc0 hl1 hl2 (by omega) ?_ ?_ ?_ ?_
  · refine fun hb => ?_
    subst hb
    refine ⟨v, rfl, ?_, But.refl _ _, .inl rfl⟩
    exact ⟨⟨d0, d1, d2, d3, d5, d6, d7, ak, hk, ha⟩, ho, hn, hf, hfine⟩
  · refine fun hb hf' => ?_
    rw [show comeS ⟨D, fin, sn', turn, bad⟩ sn at_ m final = ⟨D, fin, sn', turn, true⟩ by unfold comeS; rw [hf']; rfl] at hfine ⊢
    refine ⟨v, by rw [hf'], ⟨⟨d0, d1, d2, d3, d5, d6, d7, ak, hk.set 14 (.bool true), ha⟩, hoth ((But.refl (fun k => k = fb) w).setCell (p := ⟨fb, 14, none⟩) rfl _) ho hn, hn, hf, hfine⟩, (But.refl _ _).setCell (.inl rfl) _, .inl rfl⟩
  · refine fun hok hfi v' w1 ho1 hg1 hv1 => ?_
    subst hfi
    rw [show comeS ⟨D, fin, sn', turn, bad⟩ sn at_ m true = ⟨D ++ m, -1, 0, turn, bad⟩ by unfold comeS; rw [hok]; rfl] at hfine ⊢
    have hk1 := hk.grown hg1 hn
    have hn1 := moved_ne hv1 hn hlt
    refine ⟨v', by rw [hok], ⟨⟨d0, d1, d2, d3, d5, d6, d7, ak, (((hk1.set 9 v').set 12 _).set 11 _).set 12 _, fun h => by simp at h⟩, hoth (((((But.refl (fun k => k = fb) w1).setCell (p := ⟨fb, 9, none⟩) rfl _).setCell (p := ⟨fb, 12, none⟩) rfl _).setCell (p := ⟨fb, 11, none⟩) rfl _).setCell (p := ⟨fb, 12, none⟩) rfl _) ho1 hn1, hn1, hf, hfine⟩, (((((But.refl _ _).grown hg1 fun k hk => .inr hk).setCell (.inl rfl) _).setCell (.inl rfl) _).setCell (.inl rfl) _).setCell (.inl rfl) _, hv1⟩
  · refine fun hok hfi v' w1 ho1 hg1 hv1 => ?_
    subst hfi
    rw [show comeS ⟨D, fin, sn', turn, bad⟩ sn at_ m false = ⟨D ++ m, fin, (sn' + 1) % 4294967296, turn, bad⟩ by unfold comeS; rw [hok]; rfl] at hfine ⊢
    have hk1 := hk.grown hg1 hn
    have hn1 := moved_ne hv1 hn hlt
    refine ⟨v', by rw [hok], ⟨⟨d0, d1, d2, d3, d5, d6, d7, ak, (hk1.set 9 v').set 12 _, ha⟩, hoth (((But.refl (fun k => k = fb) w1).setCell (p := ⟨fb, 9, none⟩) rfl _).setCell (p := ⟨fb, 12, none⟩) rfl _) ho1 hn1, hn1, hf, hfine⟩, (((But.refl _ _).grown hg1 fun k hk => .inr hk).setCell (.inl rfl) _).setCell (.inl rfl) _, hv1⟩

theorem comeR_any (h : IsFlowR w base fb v burst need s) (sn at_ : Int) (A : Option Addr) (m : List Nat) (c : Nat) (final : Bool) (hm : IsBytes w A m) (hc0 : A = none → c = 0) (hl1 : s.data.length ≤ 100000) (hl2 : m.length ≤ 100000) :
    Calls Try.prog 17 #[.pointer (some ⟨fb, 0, none⟩), .int .u32 sn, .int .i64 at_, .slice A m.length c, .bool final] w fun e w' => ∃ v', e = .returned (.bool (okC s sn at_ m.length final)) ∧ IsFlowR w' base fb v' burst need (comeS s sn at_ m final) ∧ But (FlowS fb v) w w' ∧ Moved w v v' := by
  have hlt := h.lt
  have hfine := h.fine.come sn at_ m final
  obtain ⟨⟨d0, d1, d2, d3, d5, d6, d7, hk⟩, ho, hn, hf, hs⟩ := h
  obtain ⟨D, fin, sn', turn, bad⟩ := s
  have hoth : ∀ {w1 : World} {v1 : Value} {l : List Nat} {w2 : World}, But (fun k => k = fb) w1 w2 → Own w1 base v1 l → v1.ownBlock ≠ some fb → Own w2 base v1 l := fun hb ho hn => hb.own ho (fun k hk' e => hn (by rw [hk', e]))
  refine comeR_walk D fin sn' turn bad sn at_ A m c final _ _ hk rfl rfl rfl rfl rfl ho hn hs.sn0 hs.sn1 hs.turn0 m.length (Lib.hid rfl) hm hc0 hl1 hl2 (by omega) ?_ ?_ ?_ ?_
  · refine fun hb => ?_
    subst hb
    refine ⟨v, rfl, ?_, But.refl _ _, .inl rfl⟩
    exact ⟨⟨d0, d1, d2, d3, d5, d6, d7, hk⟩, ho, hn, hf, hfine⟩
  · refine fun hb hf' => ?_
    rw [show comeS ⟨D, fin, sn', turn, bad⟩ sn at_ m final = ⟨D, fin, sn', turn, true⟩ by unfold comeS; rw [hf']; rfl] at hfine ⊢
    refine ⟨v, by rw [hf'], ⟨⟨d0, d1, d2, d3, d5, d6, d7, hk.set 13 (.bool true)⟩, hoth ((But.refl (fun k => k = fb) w).setCell (p := ⟨fb, 13, none⟩) rfl _) ho hn, hn, hf, hfine⟩, (But.refl _ _).setCell (.inl rfl) _, .inl rfl⟩
  · refine fun hok hfi v' w1 ho1 hg1 hv1 => ?_
    subst hfi
    rw [show comeS ⟨D, fin, sn', turn, bad⟩ sn at_ m true = ⟨D ++ m, -1, 0, turn, bad⟩ by unfold comeS; rw [hok]; rfl] at hfine ⊢
    have hk1 := hk.grown hg1 hn
    have hn1 := moved_ne hv1 hn hlt
    refine ⟨v', by rw [hok], ⟨⟨d0, d1, d2, d3, d5, d6, d7, (((hk1.set 9 v').set 11 _).set 10 _).set 11 _⟩, hoth (((((But.refl (fun k => k = fb) w1).setCell (p := ⟨fb, 9, none⟩) rfl _).setCell (p := ⟨fb, 11, none⟩) rfl _).setCell (p := ⟨fb, 10, none⟩) rfl _).setCell (p := ⟨fb, 11, none⟩) rfl _) ho1 hn1, hn1, hf, hfine⟩, (((((But.refl _ _).grown hg1 fun k hk => .inr hk).setCell (.inl rfl) _).setCell (.inl rfl) _).setCell (.inl rfl) _).setCell (.inl rfl) _, hv1⟩
  · refine fun hok hfi v' w1 ho1 hg1 hv1 => ?_
    subst hfi
    rw [show comeS ⟨D, fin, sn', turn, bad⟩ sn at_ m false = ⟨D ++ m, fin, (sn' + 1) % 4294967296, turn, bad⟩ by unfold comeS; rw [hok]; rfl] at hfine ⊢
    have hk1 := hk.grown hg1 hn
    have hn1 := moved_ne hv1 hn hlt
    refine ⟨v', by rw [hok], ⟨⟨d0, d1, d2, d3, d5, d6, d7, (hk1.set 9 v').set 11 _⟩, hoth (((But.refl (fun k => k = fb) w1).setCell (p := ⟨fb, 9, none⟩) rfl _).setCell (p := ⟨fb, 11, none⟩) rfl _) ho1 hn1, hn1, hf, hfine⟩, (((But.refl _ _).grown hg1 fun k hk => .inr hk).setCell (.inl rfl) _).setCell (.inl rfl) _, hv1⟩
end
end Go.Proofs.Ytjmpjdahkliheaa
