/-
  disk: DiskAgain walked.
-/
import Derived.Test.YtjmjfgbpjecgfaaDoorDkFuel
import Derived.Test.YtjmjfgbpjecgfaaDoorDkArg
import Derived.Deep.DeepCutAuto
import Derived.Deep.CutBlock
import Derived.Deep.MidRow
namespace Go.Proofs.YtjmjfgbpjecgfaaDoor
set_option linter.unusedVariables false
set_option linter.unusedSimpArgs false
open Go.RowKit

/-- How much a disk has at most behind k calls. -/
def Held (n k : Nat) (d : DK) : Prop := d.firm.length = n ∧ d.pend.length ≤ k
theorem held_new (n : Nat) : Held n 0 (DK.new n) := ⟨by simp [DK.new], Nat.le_refl _⟩
theorem Held.more {n k m : Nat} {d : DK} (h : Held n k d) (hk : k ≤ m) : Held n m d := ⟨h.1, Nat.le_trans h.2 hk⟩
theorem held_write {n k : Nat} {d : DK} (h : Held n k d) (i : Int) (p : List Nat) : Held n (k + 1) (d.write i p) := by
  obtain ⟨f1, f2⟩ := step_firm d
  unfold DK.write
  split
  · exact h.more (by omega)
  · split
    · exact h.more (by omega)
    · split
      · exact ⟨by show d.step.firm.length = n; rw [f1]; exact h.1, by show (d.pend ++ [_]).length ≤ _; simp; exact h.2⟩
      · exact ⟨by rw [f1]; exact h.1, by rw [f2]; have := h.2; omega⟩
theorem held_flush {n k : Nat} {d : DK} (h : Held n k d) : Held n (k + 1) d.flush := by
  obtain ⟨f1, f2⟩ := step_firm d
  unfold DK.flush
  split
  · exact ⟨by show d.cur.length = n; rw [cur_length]; exact h.1, Nat.zero_le _⟩
  · exact ⟨by rw [f1]; exact h.1, by rw [f2]; have := h.2; omega⟩
theorem crash_twice (d : DK) (p q : List Int) : (d.crash p).crash q = d.crash p := rfl
theorem crash_pend (d : DK) (p : List Int) : (d.crash p).pend = [] := rfl
theorem crash_readE {n k : Nat} {d : DK} (h : Held n k d) (p : List Int) (i : Nat) (hi : i < n) : (d.crash p).readE (i : Int) = 0 := by
  have h1 : (d.crash p).firm.length = n := by show (applyP _ _).length = n; rw [applyP_length]; exact h.1
  have h2 : (d.crash p).off = false := rfl
  have h3 : (d.crash p).bad (i : Int) = false := by
    simp only [DK.bad, h1, Bool.or_eq_false_iff, decide_eq_false_iff_not]
    omega
  unfold DK.readE
  rw [h2, h3]
  rfl
theorem new12 (w : World) : Calls Tryd.prog 10 #[.int .i64 12] w fun e w' => ∃ db, e = .returned (.tuple #[.pointer (some ⟨db, 0, none⟩), .nilIface]) ∧ Dk w.heap.size w' db (DK.new 12) ∧ Below w.heap.size w w' := new_D w 12 (by decide) (by decide)

/-- A row loaded out of the middle of a block, behind a guard that holds. -/
theorem wpList_load_mid_g {P : Program} {ops : Array Oper} {rest : List Oper} {op : Oper} {a : Act} {w : World} {Q : Exit → Act → World → Prop} (hw : Region.wanted op (yielded ops a.tmps) = true) (ty : TypeId) (x : Operand) (ho : op.op = .load ty x)
    (b o : Nat) (hx : a.eval x = .pointer (some ⟨b, o, none⟩)) (cs : List Value) (d : TypeDesc) (hc : w.rangeAt b o cs)
    (hu : P.underlying ty = some d) (hd : d.isRow = true) (hi : (P.info? ty).map (·.size) = some cs.length)
    (h : wpList P ops Q rest (a.put op.dst (.agg cs.toArray)) w) : wpList P ops Q (op :: rest) a w :=
  wpList_wanted hw fun _ hK => wp_load_mid ty x ho b o hx cs d hc hu hd hi (hK _ _ h)
def callZ : Array Value := #[.int .i64 0, .int .i64 0, .int .u8 0, .slice none 0 0]
theorem call_one (K : CallK) : (K.cells.toArray.all fun x => x.oneCell') = true := by simp [CallK.cells, Value.oneCell']
theorem call_info (K : CallK) : (Tryd.prog.info? 31).map (·.size) = some K.cells.toArray.size := by
  rw [show K.cells.toArray.size = 4 from rfl]
  kernel_rfl
/-- A variable with a call laid into it. -/
theorem call_var (w : World) (K : CallK) : IsBlk ((w.alloc (.cells callZ 31)).setRow w.heap.size K.cells.toArray) w.heap.size K.cells.toArray 31 ∧ Below w.heap.size w ((w.alloc (.cells callZ 31)).setRow w.heap.size K.cells.toArray) :=
  ⟨isBlk_setRow (IsBlk.new _ _ _) _, below_setRow ((Below.refl _ _).alloc (Nat.le_refl _) _) _ (Nat.le_refl _) _⟩

theorem Dk.zero {B : Nat} {w : World} {db : Nat} {d : DK} (h : Dk B w db d) : Dk 0 w db d := by
  obtain ⟨fb, mb, cap, cv, h⟩ := h
  exact ⟨fb, mb, cap, cv, h.base_mono (Nat.zero_le _)⟩
theorem wpList_neq_same {ops : Array Oper} {rest : List Oper} {o : Oper} {a : Act} {w : World} {Q : Exit → Act → World → Prop} (hw : Region.wanted o (yielded ops a.tmps) = true) (x y : Operand) (ho : o.op = .binOp .neq 33 x y 33) (p : List Nat) (hp : p.length = 64) (hx : a.eval x = pgV p) (hy : a.eval y = pgV p)
    (h : wpList Tryd.prog ops Q rest (a.put o.dst (.bool false)) w) : wpList Tryd.prog ops Q (o :: rest) a w :=
  wpList_neq_pg hw x y ho p p hp hp hx hy (by rw [beq_self_eq_true]; exact h)

set_option maxRecDepth 100000 in
set_option maxHeartbeats 4000000 in
theorem again_walk (v0 v1 v2 : Value) (D0 D1 D2 : D) (W : World) (r0 : RdV Tryd.prog W 22 v0 D0) (r1 : RdV Tryd.prog W 29 v1 D1) (r2 : RdV Tryd.prog W 29 v2 D2) (hg : HasET W) :
    Calls Tryd.prog 6 #[v0, v1, v2] W fun e w' => e = .returned (.bool true) ∧ Below W.heap.size W w' := by
  have hi1 : Tryd.prog.cellsOf 3 = 1 := by kernel_rfl
  have hy : Tryd.prog.bytesOf 3 = 8 := by kernel_rfl
  obtain ⟨ca, cc, l, rfl, hcc, hll, hcs⟩ := r0.callsK
  obtain ⟨pa, pn, pc, pz, rfl, -, hpn, hpc, -, hpb, -, hpi⟩ := r1.ints Tryd.underlying29 Tryd.underlying3 hi1
  obtain ⟨qa, qn, qc, qz, rfl, -, hqn, hqc, -, hqb, -, hqi⟩ := r2.ints Tryd.underlying29 Tryd.underlying3 hi1
  subst hpn hqn
  clear r0 r1 r2 hi1 hy
  have HARG := Lib.hid (And.intro hcs (And.intro hpi hqi))
  have HLL := Lib.hid (And.intro hcc (And.intro hll (And.intro (And.intro hpc hpb) (And.intro hqc hqb))))
  clear hcs hpi hqi hcc hll hpb hqb hpc hqc
  go_enter Tryd.func6, Tryd.ntmps6
  go_upto_region 4 with (first
    | (go_at_call 9; (with_reducible refine (stands_any _).mono ?_); rintro e w1 ⟨rfl, hb1⟩; have HB1 := Lib.hid hb1; clear hb1)
    | (go_at_call 10; (with_reducible refine (new12 _).mono ?_); rintro e w2 ⟨db, rfl, h2, hb2⟩; have H2 := Lib.hid (And.intro h2 hb2); clear h2 hb2))
  go_upto_block 0 with fail
  go_cut [26] (fun _ wx => ∃ dk : DK, Hid (Held 12 1000 dk ∧ Dk w1.heap.size wx db dk ∧ Below W.heap.size W wx ∧ w1.heap.size ≤ wx.heap.size))
  case first =>
    go_wp2_with fail
    go_loopw [26] (fun i wr => ∃ k : Nat, ∃ dk : DK, k ≤ l.length ∧ k ≤ 200 ∧ i = .int .i64 k ∧ Hid (Held 12 k dk ∧ Dk w1.heap.size wr db dk ∧ Below W.heap.size W wr ∧ w1.heap.size ≤ wr.heap.size)) (fun i _ => l.length - (intOf i).toNat)
    case atStart => exact ⟨0, _, by omega, by omega, rfl, held_new 12, H2.out.1, HB1.out.trans (H2.out.2.mono HB1.out.size), H2.out.2.size⟩
    case round =>
      obtain ⟨k, dk, hk, hk2, rfl, HR⟩ := hrel
      by_cases hkl : k < l.length
      · obtain ⟨K, hK⟩ : ∃ K, l[k]? = some K := ⟨_, List.getElem?_eq_getElem hkl⟩
        have hcs := HARG.out.1.below (HR.out.2.2.1)
        obtain ⟨b, off, rfl, hbl, hrg⟩ := hcs.at_.resolve_left (by rintro rfl; simp at hkl)
        have hrk := hrg k K hK
        have hok := hcs.ok K (List.mem_of_getElem? hK)
        have HC := Lib.hid (And.intro hrk hok)
        clear hrk hok hcs hrg hbl hK
        have hki : (k : Int) < (l.length : Int) := by omega
        have hkn : (0 : Int) ≤ (k : Int) := by omega
        go_upto_region 7 with (first
          | (refine wpList_load_mid_g (by rfl) 31 (.tmp 29) (by rfl) b (off + k * 4) (by rfl) K.cells _ HC.out.1 Tryd.underlying31 rfl (by kernel_rfl) ?_)
          | (refine wpList_alloc_info (by rfl) 31 (by rfl) (.agg callZ) callZ (by kernel_rfl) rfl ?_)
          | (refine wpList_store_row (by rfl) 31 (.tmp 10) (.tmp 30) (by rfl) _ K.cells.toArray (by rfl) (by rfl) 31 callZ (heap_alloc_new _ _) (call_info K) rfl (call_one K) ?_))
        have hv := call_var wr K
        generalize (wr.alloc (.cells callZ 31)).setRow wr.heap.size K.cells.toArray = w5 at hv ⊢
        have H5 := Lib.hid (And.intro hv.1 (And.intro (HR.out.2.1.below hv.2) (And.intro (HR.out.2.2.1.trans (hv.2.mono HR.out.2.2.1.size)) (Nat.le_trans HR.out.2.2.2 hv.2.size))))
        clear hv
        by_cases h200 : k = 200
        · subst h200
          go_wp2_with fail
          go_meet
          exact ⟨dk, HR.out.1.more (by omega), H5.out.2⟩
        · have h200' : ((k : Int) == 200) = false := by simp; omega
          have c0 := H5.out.1.cell 0 (v := .int .i64 K.kd) rfl
          have c1 := H5.out.1.cell 1 (v := .int .i64 K.i) rfl
          have c2 := H5.out.1.cell 2 (v := .int .u8 (K.c : Int)) rfl
          by_cases hk1 : K.kd = 1
          · obtain ⟨F, hF, eF⟩ := mod_pos K.i 12 (by decide) (by decide)
            rw [show ((12 : Nat) : Int) = 12 from rfl] at eF
            have hwr := H5.out.2.1.write (F : Int) (pg1 K.c) (pg1_length K.c) (by have := HR.out.1.2; omega) H5.out.2.2.2
            rw [hk1] at c0
            go_wp2_with (go_at_call 11; refine hwr.mono ?_; rintro e w6 ⟨v6, rfl, hr6, h6, hb6⟩; have H6 := Lib.hid (And.intro h6 hb6); clear h6 hb6)
            go_round
            case rel => exact ⟨k + 1, _, by omega, by omega, by go_num, held_write HR.out.1 _ _, H6.out.1, H5.out.2.2.1.trans (H6.out.2.mono HB1.out.size), Nat.le_trans H5.out.2.2.2 H6.out.2.size⟩
            case measure => simp [intOf]; omega
          · by_cases hk2' : K.kd = 2
            · have hfl := H5.out.2.1.flush (by have := HR.out.1.2; omega) H5.out.2.2.2
              rw [hk2'] at c0
              go_wp2_with (go_at_call 12; refine hfl.mono ?_; rintro e w6 ⟨v6, rfl, hr6, h6, hb6⟩; have H6 := Lib.hid (And.intro h6 hb6); clear h6 hb6)
              go_round
              case rel => exact ⟨k + 1, _, by omega, by omega, by go_num, held_flush HR.out.1, H6.out.1, H5.out.2.2.1.trans (H6.out.2.mono HB1.out.size), Nat.le_trans H5.out.2.2.2 H6.out.2.size⟩
              case measure => simp [intOf]; omega
            · have e1 : (K.kd == 1) = false := by simp; exact hk1
              have e2 : (K.kd == 2) = false := by simp; exact hk2'
              go_wp2_with fail
              go_round
              case rel => exact ⟨k + 1, _, by omega, by omega, by go_num, HR.out.1.more (by omega), H5.out.2⟩
              case measure => simp [intOf]; omega
      · go_wp2_with fail
        go_meet
        exact ⟨dk, HR.out.1.more (by omega), HR.out.2⟩
  case rest =>
    obtain ⟨dk, HR⟩ := hcut
    have hcr := HR.out.2.1.crash (by have := HR.out.1.2; omega) pa pz pc (HARG.out.2.1.below_ HR.out.2.2.1) (by have := HLL.out; rw [show Tryd.prog.bytesOf 3 = 8 from by kernel_rfl] at this; simp only [reachBytes] at this; omega)
    go_upto_region 15 with (go_at_call 13; (with_reducible refine hcr.mono ?_); rintro e w3 ⟨xb, rfl, h3, hb3⟩; have H3 := Lib.hid (And.intro h3.zero (HR.out.2.2.1.trans (hb3.mono HR.out.2.2.1.size))); clear h3 hb3)
    clear hcr
    have hcr := H3.out.1.crash (by show 0 < 1000001; decide) qa qz qc (HARG.out.2.2.below_ H3.out.2) (by have := HLL.out; rw [show Tryd.prog.bytesOf 3 = 8 from by kernel_rfl] at this; simp only [reachBytes] at this; omega)
    rw [crash_twice] at hcr
    go_upto_region 16 with (go_at_call 13; (with_reducible refine hcr.mono ?_); rintro e w4 ⟨yb, rfl, h4, hb4⟩; have H4 := Lib.hid (And.intro (H3.out.1.below hb4) (And.intro h4.zero (H3.out.2.trans (hb4.mono H3.out.2.size)))); clear h4 hb4)
    clear hcr
    have hre := fun k hk => crash_readE HR.out.1 pz k hk
    have hpe := crash_pend dk pz
    generalize dk.crash pz = x at *
    have HRE := Lib.hid hre
    have HPE := Lib.hid hpe
    clear hre hpe
    go_wp2_with fail
    go_loopw [58] (fun i wr => ∃ k : Nat, k ≤ 12 ∧ i = .int .i64 k ∧ Hid (Dk 0 wr xb x ∧ Dk 0 wr yb x ∧ Below W.heap.size W wr)) (fun i _ => 12 - (intOf i).toNat)
    case atStart => exact ⟨0, by omega, rfl, H4.out⟩
    case round =>
      obtain ⟨k, hk, rfl, HR2⟩ := hrel
      by_cases hlt : k < 12
      · have hrx := HR2.out.1.read (k : Int)
        have hpl : (x.read (k : Int)).length = 64 := HR2.out.1.read_length _
        rw [HRE.out k hlt] at hrx
        generalize hpq : x.read (k : Int) = p at *
        have HPL := Lib.hid hpl
        have HPQ := Lib.hid hpq
        clear hpl hpq
        go_upto_region 20 with (first
          | (go_at_call 15; (with_reducible refine hrx.mono ?_); rintro e w5 ⟨v5, rfl, hv5, hb5⟩; obtain rfl := res_nil hv5; have H5 := Lib.hid hb5; clear hb5)
          | (refine wpList_alloc_info (by rfl) 33 (by rfl) (.agg (nv .u8 zeroPg)) (nv .u8 zeroPg) (by kernel_rfl) rfl ?_)
          | (refine wpList_store_row (by rfl) 33 (.tmp 14) (.tmp 65) (by rfl) _ (nv .u8 p) (by rfl) (by rfl) 33 (nv .u8 zeroPg) (heap_alloc_new _ _) (info_pg _ HPL.out) (by rw [nv_size, nv_size, HPL.out]; rfl) (nv_one _ _) ?_))
        have hv1 := pg_var w5 p
        generalize (w5.alloc (.cells (nv .u8 zeroPg) 33)).setRow w5.heap.size (nv .u8 p) = w6 at hv1 ⊢
        have hb6 := H5.out.trans (hv1.2.mono H5.out.size)
        have H6 := Lib.hid (And.intro hv1.1 (And.intro (HR2.out.1.below hb6) (And.intro (HR2.out.2.1.below hb6) (HR2.out.2.2.trans (hb6.mono HR2.out.2.2.size)))))
        have hry := H6.out.2.2.1.read (k : Int)
        rw [HRE.out k hlt, HPQ.out] at hry
        clear hv1 hb6 hrx
        go_upto_region 21 with (first
          | (go_at_call 15; (with_reducible refine hry.mono ?_); rintro e w7 ⟨v7, rfl, hv7, hb7⟩; obtain rfl := res_nil hv7; have H7 := Lib.hid hb7; clear hb7)
          | (refine wpList_alloc_info (by rfl) 33 (by rfl) (.agg (nv .u8 zeroPg)) (nv .u8 zeroPg) (by kernel_rfl) rfl ?_)
          | (refine wpList_store_row (by rfl) 33 (.tmp 16) (.tmp 71) (by rfl) _ (nv .u8 p) (by rfl) (by rfl) 33 (nv .u8 zeroPg) (heap_alloc_new _ _) (info_pg _ HPL.out) (by rw [nv_size, nv_size, HPL.out]; rfl) (nv_one _ _) ?_))
        have hv2 := pg_var w7 p
        generalize (w7.alloc (.cells (nv .u8 zeroPg) 33)).setRow w7.heap.size (nv .u8 p) = w8 at hv2 ⊢
        have hb8 := H7.out.trans (hv2.2.mono H7.out.size)
        have H8 := Lib.hid (And.intro (H6.out.1.below hb8 H6.out.1.lt) (And.intro hv2.1 (And.intro (H6.out.2.1.below hb8) (And.intro (H6.out.2.2.1.below hb8) (H6.out.2.2.2.trans (hb8.mono H6.out.2.2.2.size))))))
        clear hv2 hb8 hry
        go_wp2_with (first
          | (refine wpList_load_row_g (by rfl) 33 (.tmp 14) (by rfl) w5.heap.size (by rfl) 33 (nv .u8 p) (0, 0) _ H8.out.1 Tryd.underlying33 rfl (info_pg _ HPL.out) ?_)
          | (refine wpList_load_row_g (by rfl) 33 (.tmp 16) (by rfl) w7.heap.size (by rfl) 33 (nv .u8 p) (0, 0) _ H8.out.2.1 Tryd.underlying33 rfl (info_pg _ HPL.out) ?_)
          | (refine wpList_neq_same (by rfl) (.tmp 73) (.tmp 74) (by rfl) p HPL.out (by rfl) (by rfl) ?_))
        go_round
        case rel => exact ⟨k + 1, by omega, by go_num, H8.out.2.2⟩
        case measure => simp [intOf]; omega
      · obtain rfl : k = 12 := by omega
        have hpx := HR2.out.1.pending
        have hpy := HR2.out.2.1.pending
        rw [HPE.out] at hpx hpy
        go_wp2_with (go_at_call 18; (first | (with_reducible refine hpx.mono ?_) | (with_reducible refine hpy.mono ?_)); rintro e w' ⟨rfl, rfl⟩)
        go_ret
        exact ⟨rfl, HR2.out.2.2⟩
end Go.Proofs.YtjmjfgbpjecgfaaDoor
