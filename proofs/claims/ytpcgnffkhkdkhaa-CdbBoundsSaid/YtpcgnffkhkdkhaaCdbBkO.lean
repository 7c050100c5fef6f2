/-
  cdb: blocks, no kind.
-/
import Derived.Test.YtpcgnffkhkdkhaaCdbBlocks
namespace Go.Proofs.Ytpcgnffkhkdkhaa
set_option linter.unusedVariables false
set_option linter.unusedSimpArgs false
open Go.RowKit
attribute [local go_sem ↓] Go.wp_at_zero Go.wp_at_succ

set_option maxRecDepth 100000 in
set_option maxHeartbeats 4000000 in
theorem bk_other (b : List Nat) (hl : b.length = 16) (hb : ∀ c ∈ b, c < 256) (w : World) (hop : ∀ x ∈ [40, 136, 42, 138, 65, 147, 137, 53, 145], b.getD 0 0 ≠ x) :
    Calls Try.prog 12 #[.agg (nv .u8 b)] w fun e w' => e = .returned (.tuple #[.agg (blocksP b).1.cells, .int .i64 ((blocksP b).2 : Nat)]) ∧ Below w.heap.size w w' := by
  have HL := Lib.hid hl
  have HB := Lib.hid hb
  clear hl hb
  go_enter Try.func12, Try.ntmps12
  go_upto_region 1 with fail
  go_cut [4] (fun s4 wx => ∃ T, s4 = .pointer (some ⟨T, 0, none⟩) ∧ Bk w w.heap.size (w.heap.size + 1) T b wx { lba := at_ b 2 4, n := at_ b 7 2 })
  case first =>
    have kA : IsBlk ((w.alloc (.cells (nv .u8 b) 29)).alloc (.cells (({} : TK).cells) 32)) w.heap.size (nv .u8 b) 29 := (IsBlk.new w _ _).alloc _
    have kR : IsBlk ((w.alloc (.cells (nv .u8 b) 29)).alloc (.cells (({} : TK).cells) 32)) (w.heap.size + 1) (({} : TK).cells) 32 := by
      have := IsBlk.new (w.alloc (.cells (nv .u8 b) 29)) (({} : TK).cells) 32
      rwa [World.size_alloc] at this
    have kB : Below w.heap.size w ((w.alloc (.cells (nv .u8 b) 29)).alloc (.cells (({} : TK).cells) 32)) := ((Below.refl _ _).alloc (Nat.le_refl _) _).alloc (by simp) _
    have hs : w.heap.size + 1 < ((w.alloc (.cells (nv .u8 b) 29)).alloc (.cells (({} : TK).cells) 32)).heap.size := by simp
    have e0 : ({} : TK).cells = #[Value.int .i64 0, Value.int .u64 0, Value.int .u64 0, Value.bool false, Value.bool false, Value.int .i64 0, Value.int .i64 0, Value.int .i64 0, Value.int .i64 0, Value.int .i64 0, Value.int .i64 0, Value.bool false] := rfl
    have H0 := Lib.hid (And.intro kA (And.intro kR kB))
    have hA := kA
    rw [e0] at hA hs H0
    clear kA kR kB e0
    generalize ((w.alloc (.cells (nv .u8 b) 29)).alloc (.cells #[Value.int .i64 0, Value.int .u64 0, Value.int .u64 0, Value.bool false, Value.bool false, Value.int .i64 0, Value.int .i64 0, Value.int .i64 0, Value.int .i64 0, Value.int .i64 0, Value.int .i64 0, Value.bool false] 32)) = W0 at *
    go_region_held3 (fun w' => IsBlk w' w.heap.size (nv .u8 b) 29) (first | assumption | exact IsBlk.alloc (by assumption) _ | exact IsBlk.drew (by assumption) | exact IsBlk.drew (IsBlk.alloc (by assumption) _))
      ((go_at_call 11; (refine (numAt (b := b) (t := 29) (by assumption) HB.out _ _ _ (by have := HL.out; omega) (by omega) (by omega)).mono ?_); rintro e w' ⟨rfl, rfl⟩))
    all_goals
      go_wp2_with fail
      go_meet
      refine ⟨W0.heap.size, rfl, ?_⟩
      exact ⟨(H0.out.1.alloc _).drew, (H0.out.2.1.alloc _).drew, (IsBlk.new W0 _ _).drew, (H0.out.2.2.alloc H0.out.2.2.size _).drew, by omega, by omega, by omega, by omega, by omega, H0.out.2.2.size⟩
  case rest =>
    obtain ⟨T, rfl, hk⟩ := hcut
    have h0 : b.getD 0 0 < 256 := by
      have h := HL.out
      exact HB.out _ (by simp [List.getD, List.getElem?_eq_getElem (show 0 < b.length by omega)])
    have h1 : b.getD 1 0 < 256 := by
      have h := HL.out
      exact HB.out _ (by simp [List.getD, List.getElem?_eq_getElem (show 1 < b.length by omega)])
    have hPP : ∀ op f l n, (op ≠ 40 ∧ op ≠ 136 ∧ op ≠ 42 ∧ op ≠ 138 ∧ op ≠ 65 ∧ op ≠ 147 ∧ op ≠ 137 ∧ op ≠ 53 ∧ op ≠ 145) → blkP op f l n = no 8192 := by
      rintro op f l n ⟨p1, p2, p3, p4, p5, p6, p7, p8, p9⟩
      unfold blkP
      simp [p1, p2, p3, p4, p5, p6, p7, p8, p9]
    have hP : blocksP b = no 8192 := hPP _ _ _ _ (by simpa only [List.mem_cons, List.not_mem_nil, or_false, forall_eq_or_imp, forall_eq] using hop)
    clear hPP
    have a0 := hk.a.cell 0 (nv_get .u8 b 0 (by have := HL.out; omega))
    have a1 := hk.a.cell 1 (nv_get .u8 b 1 (by have := HL.out; omega))
    simp only [List.mem_cons, List.not_mem_nil, or_false, forall_eq_or_imp, forall_eq] at hop
    obtain ⟨p1, p2, p3, p4, p5, p6, p7, p8, p9⟩ := hop
    generalize b.getD 0 0 = op at *
    generalize b.getD 1 0 = f at *
    have q1 : ((op : Int) == 40) = false := by simp; omega
    have q2 : ((op : Int) == 136) = false := by simp; omega
    have q3 : ((op : Int) == 42) = false := by simp; omega
    have q4 : ((op : Int) == 138) = false := by simp; omega
    have q5 : ((op : Int) == 65) = false := by simp; omega
    have q6 : ((op : Int) == 147) = false := by simp; omega
    have q7 : ((op : Int) == 137) = false := by simp; omega
    have q8 : ((op : Int) == 53) = false := by simp; omega
    have q9 : ((op : Int) == 145) = false := by simp; omega
    have r0 := hk.r.cell 0 (v := .int .i64 0) rfl
    have r1 := hk.r.cell 1 (v := .int .u64 0) rfl
    have r2 := hk.r.cell 2 (v := .int .u64 0) rfl
    have r3 := hk.r.cell 3 (v := .bool false) rfl
    have r4 := hk.r.cell 4 (v := .bool false) rfl
    have r5 := hk.r.cell 5 (v := .int .i64 0) rfl
    have r6 := hk.r.cell 6 (v := .int .i64 0) rfl
    have r7 := hk.r.cell 7 (v := .int .i64 0) rfl
    have r8 := hk.r.cell 8 (v := .int .i64 0) rfl
    have r9 := hk.r.cell 9 (v := .int .i64 0) rfl
    have r10 := hk.r.cell 10 (v := .int .i64 0) rfl
    have r11 := hk.r.cell 11 (v := .bool false) rfl
    have ft := hk.t.fz
    have fr := hk.r.fz
    have n1 := hk.ar
    have n2 := hk.at_
    have n3 := hk.rt
    have HK := Lib.hid hk
    have HP := Lib.hid hP
    have HV : Hid (True) := trivial
    clear hk hP p1 p2 p3 p4 p5 p6 p7 p8 p9
    go_wp2
    refine bodyPost_ret (v := .tuple #[.agg ({} : TK).cells, .int .i64 8192]) (results_cell_tmp Try.results12 _ _ (w.heap.size + 1) 32 ({} : TK).cells _ (by rfl) (stored12 HK.out.r _ _ _ _ _ _ _ _ _ _ _ _) _ (by rfl) Try.underlying32 rfl (by kernel_rfl)) rfl ⟨by rw [HP.out]; rfl, ?_⟩
    repeat (first | with_reducible refine Below.setCell ?_ (by first | exact HK.out.ht | exact HK.out.hr) _ | exact HK.out.bel)

end Go.Proofs.Ytpcgnffkhkdkhaa
