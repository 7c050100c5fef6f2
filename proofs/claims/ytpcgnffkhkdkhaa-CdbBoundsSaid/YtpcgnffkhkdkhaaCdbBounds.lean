/-
  cdb: the law CdbBounds.
-/
import Derived.Test.YtpcgnffkhkdkhaaCdbStands
import Derived.Test.YtpcgnffkhkdkhaaCdbLaw
import Derived.Test.YtpcgnffkhkdkhaaRead2
namespace Go.Proofs.Ytpcgnffkhkdkhaa
set_option linter.unusedVariables false
set_option linter.unusedSimpArgs false
open Go.RowKit
attribute [local go_sem ↓] Go.wp_at_zero Go.wp_at_succ

theorem nv_of_ints (zs : List Int) (h : ∀ z ∈ zs, (Lit.int .u8 z).wf = true) : ∃ b : List Nat, (zs.map (Value.int .u8)).toArray = nv .u8 b ∧ b.length = zs.length ∧ ∀ c ∈ b, c < 256 := by
  refine ⟨zs.map Int.toNat, ?_, by simp, ?_⟩
  · unfold nv
    rw [List.map_map]
    congr 1
    apply List.map_congr_left
    intro z hz
    obtain ⟨n, rfl, _⟩ := nat_of_u8 (h z hz)
    simp
  · intro c hc
    obtain ⟨z, hz, rfl⟩ := List.mem_map.1 hc
    obtain ⟨n, rfl, hn⟩ := nat_of_u8 (h z hz)
    simpa using hn
theorem RdV.row16 {W : World} {v : Value} {d : D} (h : RdV Try.prog W 29 v d) : ∃ b : List Nat, v = .agg (nv .u8 b) ∧ b.length = 16 ∧ ∀ c ∈ b, c < 256 := by
  obtain ⟨zs, rfl, _, hl, hz⟩ := h.intArray (e := 5) (n := 16) (k := .u8) Try.underlying29 Try.underlying5 (by kernel_rfl) (by kernel_rfl)
  obtain ⟨b, hb, hbl, hb2⟩ := nv_of_ints zs hz
  exact ⟨b, by rw [hb], by omega, hb2⟩
theorem eq_none (w : World) : (Op.equalIn 10000 32 (.agg ({} : TK).cells) (.agg #[.int .i64 0, .int .u64 0, .int .u64 0, .bool false, .bool false, .int .i64 0, .int .i64 0, .int .i64 0, .int .i64 0, .int .i64 0, .int .i64 0, .bool false])).run Try.prog w = .ok true w := eq_task {} {} w

/-- The first two rows of a law over sixteen bytes: behind the anchor and Decode. -/
structure Told (w W : World) (B0 T : Nat) (b : List Nat) (t : TK) : Prop where
  a : IsBlk W B0 (nv .u8 b) 29
  t : IsBlk W T t.cells 32
  bel : Below w.heap.size w W

set_option maxRecDepth 100000 in
set_option maxHeartbeats 2000000 in
theorem bounds_walk (b : List Nat) (hl : b.length = 16) (hb : ∀ c ∈ b, c < 256) (w : World) :
    Calls Try.prog 5 #[.agg (nv .u8 b)] w fun e w' => e = .returned (.bool true) ∧ Below w.heap.size w w' := by
  have hbd := Lib.hid (decP_bounds b hb)
  have HD := Lib.hid (fun W => dec_any b hl hb W)
  have HL := Lib.hid hl
  clear hl hb
  obtain ⟨t, c, hr⟩ : ∃ t c, decP b = (t, c) := ⟨_, _, rfl⟩
  rw [hr] at hbd HD
  clear hr
  go_enter Try.func5, Try.ntmps5
  go_wp2_with fail
  refine (stands_any _).mono ?_
  rintro e w1 ⟨rfl, hb1⟩
  have K1 : Hid (IsBlk w1 w.heap.size (nv .u8 b) 29 ∧ Below w.heap.size w w1) := by
    have k0 := IsBlk.new w (nv .u8 b) 29
    exact Lib.hid ⟨k0.below hb1 k0.lt, ((Below.refl _ _).alloc (Nat.le_refl _) _).trans (hb1.mono (by simp))⟩
  clear hb1
  go_wp2_with ((refine wpList_load_row (by rfl) 29 (.tmp 1) (by rfl) w.heap.size (by rfl) 29 (nv .u8 b) (0, 0) _ (by exact K1.out.1) Try.underlying29 rfl (by rw [nv_size, HL.out]; kernel_rfl) ?_))
  refine (HD.out _).mono ?_
  rintro e w2 ⟨rfl, hb2⟩
  have K2 : Hid (IsBlk (w2.alloc (.cells ({} : TK).cells 32)) w2.heap.size ({} : TK).cells 32 ∧ Below w.heap.size w w2) := by
    exact Lib.hid ⟨IsBlk.new _ _ _, K1.out.2.trans (hb2.mono K1.out.2.size)⟩
  clear hb2 K1
  go_upto_region 4 with ((refine wpList_store_row (by rfl) 32 (.tmp 3) (.tmp 10) (by rfl) w2.heap.size t.cells (by rfl) (by rfl) 32 ({} : TK).cells (by exact K2.out.1) (by kernel_rfl) (by rfl) (tk_one _) ?_))
  have K3 : Hid (IsBlk ((w2.alloc (.cells #[.int .i64 0, .int .u64 0, .int .u64 0, .bool false, .bool false, .int .i64 0, .int .i64 0, .int .i64 0, .int .i64 0, .int .i64 0, .int .i64 0, .bool false] 32)).setRow w2.heap.size t.cells) w2.heap.size t.cells 32 ∧ Below w.heap.size w ((w2.alloc (.cells #[.int .i64 0, .int .u64 0, .int .u64 0, .bool false, .bool false, .int .i64 0, .int .i64 0, .int .i64 0, .int .i64 0, .int .i64 0, .int .i64 0, .bool false] 32)).setRow w2.heap.size t.cells)) :=
    Lib.hid ⟨isBlk_setRow K2.out.1 _, below_setRow (K2.out.2.alloc K2.out.2.size _) _ K2.out.2.size _⟩
  generalize (w2.alloc (.cells #[.int .i64 0, .int .u64 0, .int .u64 0, .bool false, .bool false, .int .i64 0, .int .i64 0, .int .i64 0, .int .i64 0, .int .i64 0, .int .i64 0, .bool false] 32)).setRow w2.heap.size t.cells = W3 at *
  clear K2 HD
  generalize w2.heap.size = T at *
  by_cases hc : c = 0
  · subst hc
    obtain ⟨h1, h2, h3, h4, h5, h6⟩ := hbd.out.2 rfl
    simp only at h1 h2 h3 h4 h5 h6
    have t0 := K3.out.1.cell 0 (v := .int .i64 t.act) rfl
    have t2 := K3.out.1.cell 2 (v := .int .u64 t.n) rfl
    have t6 := K3.out.1.cell 6 (v := .int .i64 t.scope) rfl
    have t7 := K3.out.1.cell 7 (v := .int .i64 t.type) rfl
    have t8 := K3.out.1.cell 8 (v := .int .i64 t.alloc) rfl
    have t9 := K3.out.1.cell 9 (v := .int .i64 t.length) rfl
    have ft := K3.out.1.fz
    rw [h6] at t6
    have g1 : decide ((1 : Int) ≤ (t.act : Int)) = true := by simp; omega
    have g2 : decide ((t.act : Int) ≤ 13) = true := by simp; omega
    have g3 : decide ((0 : Int) ≤ (t.length : Int)) = true := by simp
    have g4 : decide ((t.length : Int) ≤ 1024) = true := by simp; omega
    have g5 : decide ((0 : Int) ≤ (t.alloc : Int)) = true := by simp
    have g6 : decide ((0 : Int) ≤ (t.type : Int)) = true := by simp
    have g7 : decide ((t.type : Int) < 16) = true := by simp; omega
    generalize t.act = act at *
    generalize t.n = n at *
    generalize t.type = ty at *
    generalize t.alloc = al at *
    generalize t.length = len at *
    clear hbd h1 h2 h3 h5 h6
    by_cases h11 : act = 11
    · have g8 : ((act : Int) == 11) = true := by simp; omega
      clear h11 h4
      go_wp2_with fail
      go_ret
      exact ⟨rfl, K3.out.2⟩
    · have g8 : ((act : Int) == 11) = false := by simp; omega
      have g9 : decide ((n : Int) ≤ 8) = true := by simp; omega
      clear h11 h4
      go_wp2_with fail
      go_ret
      exact ⟨rfl, K3.out.2⟩
  · obtain ⟨h1, h2⟩ := hbd.out.1 hc
    simp only at h1 h2
    clear hbd
    subst h1
    have qe := eq_none
    rcases h2 with rfl | rfl | rfl
    all_goals
      clear hc
      go_wp2_with (refine wpList_load_row (by rfl) 32 (.tmp 3) (by rfl) T (by rfl) 32 ({} : TK).cells (0, 0) _ (by exact K3.out.1) Try.underlying32 rfl (tk_info _) ?_)
      go_ret
      exact ⟨rfl, K3.out.2⟩

theorem cdbBounds_law (v0 : Value) (D0 : D) (W : World) (r0 : RdV Try.prog W 29 v0 D0) :
    Calls Try.prog 5 #[v0] W fun e w' => e = .returned (.bool true) ∧ Below W.heap.size W w' := by
  obtain ⟨b, rfl, hl, hb⟩ := r0.row16
  exact bounds_walk b hl hb W
end Go.Proofs.Ytpcgnffkhkdkhaa
