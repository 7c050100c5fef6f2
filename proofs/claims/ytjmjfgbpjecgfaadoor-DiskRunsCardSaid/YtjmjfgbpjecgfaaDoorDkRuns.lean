/-
  disk: DiskRuns walked.
-/
import Derived.Test.YtjmjfgbpjecgfaaDoorDkBoth2
import Derived.Deep.DeepCutAuto
import Derived.Deep.CutBlock
import Derived.Deep.MidRow
import Derived.Deep.QuietTactic
namespace Go.Proofs.YtjmjfgbpjecgfaaDoor
set_option linter.unusedVariables false
set_option linter.unusedSimpArgs false
open Go.RowKit

def callZ' : Array Value := #[.int .i64 0, .int .i64 0, .int .u8 0, .slice none 0 0]
theorem call_info' (K : CallK) : (Tryd.prog.info? 31).map (·.size) = some K.cells.toArray.size := by
  rw [show K.cells.toArray.size = 4 from rfl]
  kernel_rfl
theorem call_one' (K : CallK) : (K.cells.toArray.all fun x => x.oneCell') = true := by simp [CallK.cells, Value.oneCell']
theorem call_var' (w : World) (K : CallK) : IsBlk ((w.alloc (.cells callZ' 31)).setRow w.heap.size K.cells.toArray) w.heap.size K.cells.toArray 31 ∧ Below w.heap.size w ((w.alloc (.cells callZ' 31)).setRow w.heap.size K.cells.toArray) :=
  ⟨isBlk_setRow (IsBlk.new _ _ _) _, below_setRow ((Below.refl _ _).alloc (Nat.le_refl _) _) _ (Nat.le_refl _) _⟩
theorem wpList_load_mid_g' {P : Program} {ops : Array Oper} {rest : List Oper} {op : Oper} {a : Act} {w : World} {Q : Exit → Act → World → Prop} (hw : Region.wanted op (yielded ops a.tmps) = true) (ty : TypeId) (x : Operand) (ho : op.op = .load ty x)
    (b o : Nat) (hx : a.eval x = .pointer (some ⟨b, o, none⟩)) (cs : List Value) (d : TypeDesc) (hc : w.rangeAt b o cs)
    (hu : P.underlying ty = some d) (hd : d.isRow = true) (hi : (P.info? ty).map (·.size) = some cs.length)
    (h : wpList P ops Q rest (a.put op.dst (.agg cs.toArray)) w) : wpList P ops Q (op :: rest) a w :=
  wpList_wanted hw fun _ hK => wp_load_mid ty x ho b o hx cs d hc hu hd hi (hK _ _ h)
theorem wpList_neq_same' {ops : Array Oper} {rest : List Oper} {o : Oper} {a : Act} {w : World} {Q : Exit → Act → World → Prop} (hw : Region.wanted o (yielded ops a.tmps) = true) (x y : Operand) (ho : o.op = .binOp .neq 33 x y 33) (p : List Nat) (hp : p.length = 64) (hx : a.eval x = pgV p) (hy : a.eval y = pgV p)
    (h : wpList Tryd.prog ops Q rest (a.put o.dst (.bool false)) w) : wpList Tryd.prog ops Q (o :: rest) a w :=
  wpList_neq_pg hw x y ho p p hp hp hx hy (by rw [beq_self_eq_true]; exact h)
/-- What the first loop keeps. -/
structure RunI (W : World) (B n k : Nat) (w : World) (db rb : Nat) (d : DK) : Prop where
  ri : RI NoX B w db rb d d
  has : Has n k d
  bel : Below W.heap.size W w
  hB : W.heap.size ≤ B
  hs : B ≤ w.heap.size
theorem RunI.below {W : World} {B n k : Nat} {w w' : World} {db rb : Nat} {d : DK} (h : RunI W B n k w db rb d) (hb : Below w.heap.size w w') : RunI W B n k w' db rb d :=
  ⟨h.ri.below hb, h.has, h.bel.trans (hb.mono h.bel.size), h.hB, Nat.le_trans h.hs hb.size⟩

set_option maxRecDepth 100000 in
set_option maxHeartbeats 4000000 in
theorem runs_walk (v0 v1 : Value) (D0 D1 : D) (W : World) (r0 : RdV Tryd.prog W 3 v0 D0) (r1 : RdV Tryd.prog W 22 v1 D1) (hg : HasET W) :
    Calls Tryd.prog 7 #[v0, v1] W fun e w' => e = .returned (.bool true) ∧ Below W.heap.size W w' := by
  obtain ⟨x, rfl, rfl, hx⟩ := r0.int Tryd.underlying3
  obtain ⟨ca, cc, l, rfl, hcc, hll, hcs⟩ := r1.callsK
  clear r0 r1
  have HARG := Lib.hid (And.intro hcs hg)
  have hl63 : (l.length : Int) ≤ 35184372088832 := by omega
  clear hcs hcc hll hg hx
  go_enter Tryd.func7, Tryd.ntmps7
  go_upto_region 3 with (go_at_call 9; (with_reducible refine (stands_any _).mono ?_); rintro e w1 ⟨rfl, hb1⟩; have HB1 := Lib.hid hb1; clear hb1)
  by_cases hbad : x < 1 ∨ 4096 < x
  · have hn1 := new_bad w1 x hbad
    have hn2 := fun w => ref_new_bad w x hbad
    clear hbad
    go_upto_region 4 with (go_at_call 10; (with_reducible refine hn1.mono ?_); rintro e w2 ⟨v, rfl, hv, hb2⟩; have H2 := Lib.hid (And.intro hv hb2); clear hb2)
    obtain ⟨b, rfl⟩ : ∃ b, v = .iface 75 (.pointer (some ⟨b, 0, none⟩)) := by
      unfold IsRes at hv
      rw [if_neg (by decide)] at hv
      obtain ⟨b, h, _⟩ := hv
      exact ⟨b, h⟩
    have hbel := HB1.out.trans (H2.out.2.mono HB1.out.size)
    have hnum := num_res _ _ w2 (HARG.out.2.below hbel) H2.out.1
    have HBL := Lib.hid hbel
    clear hn1 hv hbel
    go_wp2_with (first
      | (go_at_call 19; (with_reducible refine (hn2 _).mono ?_); rintro e w3 ⟨rfl, hw3⟩; obtain rfl := hw3.symm)
      | (go_at_call 14; (with_reducible refine hnum.mono ?_); rintro e w3 ⟨rfl, hb3⟩; have H3 := Lib.hid hb3; clear hb3))
    go_ret
    exact ⟨by simp, HBL.out.trans (H3.out.mono HBL.out.size)⟩
  · obtain ⟨n, rfl⟩ : ∃ n : Nat, x = (n : Int) := ⟨x.toNat, by omega⟩
    have hn1 : 1 ≤ n := by omega
    have hn2 : n ≤ 4096 := by omega
    have hnew := new_D w1 n hn1 hn2
    clear hbad
    go_upto_region 4 with (go_at_call 10; (with_reducible refine hnew.mono ?_); rintro e w2 ⟨db, rfl, h2, hb2⟩; have H2 := Lib.hid (And.intro h2 hb2); clear h2 hb2)
    clear hnew
    have hnew := ref_new w2 n hn1 hn2
    go_upto_region 5 with (go_at_call 19; (with_reducible refine hnew.mono ?_); rintro e w3 ⟨rb, fb, cap, rfl, h3, hb3⟩; have H3 := Lib.hid (And.intro h3 hb3); clear h3 hb3)
    clear hnew
    have hri : RunI W w1.heap.size n 0 w3 db rb (DK.new n) :=
      ⟨RI.begin H2.out.1 (Nat.le_refl _) H3.out.1 H3.out.2 H2.out.2.size, ⟨by simp [DK.new], Nat.le_refl _⟩, (HB1.out.trans (H2.out.2.mono HB1.out.size)).trans (H3.out.2.mono (Nat.le_trans HB1.out.size H2.out.2.size)), HB1.out.size, Nat.le_trans H2.out.2.size H3.out.2.size⟩
    have HR0 := Lib.hid hri
    clear hri H2 H3
    generalize w1.heap.size = B at *
    go_upto_block 0 with fail
    go_cut [5, 7, 45] (fun p q _ wx => ∃ db rb d, p = .pointer (some ⟨db, 0, none⟩) ∧ q = .pointer (some ⟨rb, 0, none⟩) ∧ Hid (RunI W B n 1000 wx db rb d))
    case first =>
      -- {
      go_wp2_with fail
      go_loopw [5, 7, 45] (fun p q i wr => ∃ k : Nat, ∃ db rb d, k ≤ l.length ∧ k ≤ 200 ∧ i = .int .i64 k ∧ p = .pointer (some ⟨db, 0, none⟩) ∧ q = .pointer (some ⟨rb, 0, none⟩) ∧ Hid (RunI W B n k wr db rb d)) (fun _ _ i _ => l.length - (intOf i).toNat)
      case atStart => exact ⟨0, db, rb, _, by omega, by omega, rfl, rfl, rfl, HR0.out⟩
      case round =>
        obtain ⟨k, db, rb, d, hk, hk2, rfl, rfl, rfl, HR⟩ := hrel
        by_cases hkl : k < l.length
        · obtain ⟨K, hK⟩ : ∃ K, l[k]? = some K := ⟨_, List.getElem?_eq_getElem hkl⟩
          have hcs := HARG.out.1.below HR.out.bel
          obtain ⟨b, off, rfl, hbl, hrg⟩ := hcs.at_.resolve_left (by rintro rfl; simp at hkl)
          have hrk := hrg k K hK
          have hok := hcs.ok K (List.mem_of_getElem? hK)
          have HC := Lib.hid (And.intro hrk hok)
          clear hrk hok hcs hrg hbl hK
          have hki : (k : Int) < (l.length : Int) := by omega
          have hkn : (0 : Int) ≤ (k : Int) := by omega
          go_upto_region 10 with (first
            | (refine wpList_load_mid_g' (by rfl) 31 (.tmp 48) (by rfl) b (off + k * 4) (by rfl) K.cells _ HC.out.1 Tryd.underlying31 rfl (by kernel_rfl) ?_)
            | (refine wpList_alloc_info (by rfl) 31 (by rfl) (.agg callZ') callZ' (by kernel_rfl) rfl ?_)
            | (refine wpList_store_row (by rfl) 31 (.tmp 10) (.tmp 49) (by rfl) _ K.cells.toArray (by rfl) (by rfl) 31 callZ' (heap_alloc_new _ _) (call_info' K) rfl (call_one' K) ?_))
          have hv := call_var' wr K
          generalize (wr.alloc (.cells callZ' 31)).setRow wr.heap.size K.cells.toArray = w5 at hv ⊢
          have H5 := Lib.hid (And.intro hv.1 (And.intro (HR.out.below hv.2) (HC.out.2.below hv.2)))
          have c3 := hv.1.cell 3 (v := .slice K.a K.pick.length K.pc) rfl
          clear hv
          by_cases h200 : k = 200
          · subst h200
            go_wp2_with fail
            go_meet
            exact ⟨db, rb, d, rfl, rfl, H5.out.2.1.ri, H5.out.2.1.has.more (by omega), H5.out.2.1.bel, H5.out.2.1.hB, H5.out.2.1.hs⟩
          · have h200' : ((k : Int) == 200) = false := by simp; omega
            by_cases hp200 : 200 < K.pick.length
            · have hpI : (200 : Int) < (K.pick.length : Int) := by omega
              go_wp2_with fail
              go_meet
              exact ⟨db, rb, d, rfl, rfl, H5.out.2.1.ri, H5.out.2.1.has.more (by omega), H5.out.2.1.bel, H5.out.2.1.hB, H5.out.2.1.hs⟩
            · have hpI : ¬ (200 : Int) < (K.pick.length : Int) := by omega
              have hbo := both_any (K := K) (BothI.mk HARG.out.2 H5.out.2.1.bel H5.out.2.1.hB H5.out.2.1.hs H5.out.2.1.ri H5.out.2.1.has (by omega) H5.out.2.2)
              go_upto_region 13 with (first
                | (refine wpList_load_row_g (by rfl) 31 (.tmp 10) (by rfl) wr.heap.size (by rfl) 31 K.cells.toArray (0, 0) _ H5.out.1 Tryd.underlying31 rfl (call_info' K) ?_)
                | (go_at_call 20; (with_reducible refine hbo.mono ?_); rintro e w6 ⟨db6, rb6, d6, rfl, h6, hh6, hb6⟩; have H6 := Lib.hid (RunI.mk h6 hh6 (H5.out.2.1.bel.trans (hb6.mono H5.out.2.1.hB)) H5.out.2.1.hB (Nat.le_trans H5.out.2.1.hs hb6.size)); clear h6 hh6 hb6))
              clear hbo c3 hpI hp200
              have hdk := H6.out.ri.dk
              obtain ⟨fb, cap, av, wv, hrd⟩ := H6.out.ri.rd
              obtain ⟨aa, ac, rfl⟩ := hrd.at_.slice
              have q4 := hrd.c4
              have q1 := hrd.c1
              have hoff := fun n => (hdk.below (drawn_below (Below.refl w6.heap.size w6) n)).off
              have hpend := fun n => (hdk.below (drawn_below (Below.refl w6.heap.size w6) n)).pending
              have hsize := fun n => (hdk.below (drawn_below (Below.refl w6.heap.size w6) n)).size
              rw [H6.out.has.1] at hsize
              clear hdk hrd
              go_upto_region 15 with fail
              go_quiet (first
                | (go_at_call 17; exact Calls.quiet_of_same (hoff _))
                | (go_at_call 18; exact Calls.quiet_of_same (hpend _))
                | (go_at_call 21; exact Calls.quiet_of_same (hsize _)))
              go_wp2_with fail
              go_round
              case rel => exact ⟨k + 1, _, _, _, by omega, by omega, by go_num, rfl, rfl, H6.out.below (drawn_below (Below.refl _ _) _)⟩
              case measure => simp [intOf]; omega
        · obtain rfl : k = l.length := by omega
          go_wp2_with fail
          go_meet
          exact ⟨db, rb, d, rfl, rfl, HR.out.ri, HR.out.has.more (by omega), HR.out.bel, HR.out.hB, HR.out.hs⟩
      -- }
    case rest =>
      obtain ⟨db2, rb2, d, rfl, rfl, HR⟩ := hcut
      -- {
      go_upto_region 18 with fail
      go_cut [93, 94] (fun a i wx => ∃ M : Nat, M ≤ n ∧ M ≤ 100 ∧ a = .int .i64 M ∧ i = .int .i64 0 ∧ Hid (RunI W B n 1000 wx db2 rb2 d))
      case first =>
        by_cases h100 : n ≤ 100
        · have h1 : ¬ ((100 : Int) < (n : Int)) := by omega
          go_wp2_with fail
          all_goals first
            | (go_meet; exact ⟨n, by omega, by omega, rfl, rfl, HR.out⟩)
            | (go_meet; exact ⟨100, by omega, by omega, rfl, rfl, HR.out⟩)
        · have h1 : (100 : Int) < (n : Int) := by omega
          go_wp2_with fail
          all_goals first
            | (go_meet; exact ⟨100, by omega, by omega, rfl, rfl, HR.out⟩)
            | (exfalso; omega)
      case rest =>
        obtain ⟨M, hM1, hM2, rfl, rfl, HR2⟩ := hcut
        clear HR
        go_wp2_with fail
        go_loopw [94] (fun i wr => ∃ k : Nat, k ≤ M ∧ i = .int .i64 k ∧ Hid (RunI W B n 1000 wr db2 rb2 d)) (fun i _ => M - (intOf i).toNat)
        case atStart => exact ⟨0, by omega, rfl, HR2.out⟩
        case round =>
          obtain ⟨k, hk, rfl, HR⟩ := hrel
          by_cases hlt : k < M
          · have hrx := HR.out.ri.dk.read (k : Int)
            have hpl : (d.read (k : Int)).length = 64 := HR.out.ri.dk.read_length _
            generalize hp : d.read (k : Int) = p at *
            have HP := Lib.hid (And.intro hpl hp)
            clear hpl hp
            go_upto_region 22 with (first
              | (go_at_call 15; (with_reducible refine hrx.mono ?_); rintro e w5 ⟨v5, rfl, hv5, hb5⟩; have H5 := Lib.hid (And.intro hv5 hb5); clear hv5 hb5)
              | (refine wpList_alloc_info (by rfl) 33 (by rfl) (.agg (nv .u8 zeroPg)) (nv .u8 zeroPg) (by kernel_rfl) rfl ?_)
              | (refine wpList_store_row (by rfl) 33 (.tmp 13) (.tmp 101) (by rfl) _ (nv .u8 p) (by rfl) (by rfl) 33 (nv .u8 zeroPg) (heap_alloc_new _ _) (info_pg _ HP.out.1) (by rw [nv_size, nv_size, HP.out.1]; rfl) (nv_one _ _) ?_))
            have hv1 := pg_var w5 p
            generalize (w5.alloc (.cells (nv .u8 zeroPg) 33)).setRow w5.heap.size (nv .u8 p) = w6 at hv1 ⊢
            have hb6 := H5.out.2.trans (hv1.2.mono H5.out.2.size)
            have hr6 : IsRes w6 v5 (d.readE (k : Int)) := res_below H5.out.1 hv1.2
            have H6 := Lib.hid (And.intro hv1.1 (And.intro (HR.out.below hb6) hr6))
            clear hv1 hb6 hrx hr6
            generalize w5.heap.size = b1 at *
            obtain ⟨fb, cap, av, wv, hrd⟩ := H6.out.2.1.ri.rd
            have hry := ref_read hrd (k : Int) (by have := HR.out.has.2; omega)
            rw [HP.out.2] at hry
            clear hrd
            go_upto_region 23 with (first
              | (go_at_call 22; (with_reducible refine hry.mono ?_); rintro e w7 ⟨rfl, hb7⟩; have H7 := Lib.hid hb7; clear hb7)
              | (refine wpList_alloc_info (by rfl) 33 (by rfl) (.agg (nv .u8 zeroPg)) (nv .u8 zeroPg) (by kernel_rfl) rfl ?_)
              | (refine wpList_store_row (by rfl) 33 (.tmp 15) (.tmp 107) (by rfl) _ (nv .u8 p) (by rfl) (by rfl) 33 (nv .u8 zeroPg) (heap_alloc_new _ _) (info_pg _ HP.out.1) (by rw [nv_size, nv_size, HP.out.1]; rfl) (nv_one _ _) ?_))
            have hv2 := pg_var w7 p
            generalize (w7.alloc (.cells (nv .u8 zeroPg) 33)).setRow w7.heap.size (nv .u8 p) = w8 at hv2 ⊢
            have hb8 := H7.out.trans (hv2.2.mono H7.out.size)
            have hr8 := H6.out.2.1.below hb8
            have hnum := num_res _ _ w8 (HARG.out.2.below hr8.bel) (res_below H6.out.2.2 hb8)
            have H8 := Lib.hid (And.intro (H6.out.1.below hb8 H6.out.1.lt) (And.intro hv2.1 hr8))
            clear hv2 hb8 hry hr8
            generalize w7.heap.size = b2 at *
            go_wp2_with (first
              | (refine wpList_load_row_g (by rfl) 33 (.tmp 13) (by rfl) b1 (by rfl) 33 (nv .u8 p) (0, 0) _ H8.out.1 Tryd.underlying33 rfl (info_pg _ HP.out.1) ?_)
              | (refine wpList_load_row_g (by rfl) 33 (.tmp 15) (by rfl) b2 (by rfl) 33 (nv .u8 p) (0, 0) _ H8.out.2.1 Tryd.underlying33 rfl (info_pg _ HP.out.1) ?_)
              | (refine wpList_neq_same' (by rfl) (.tmp 109) (.tmp 110) (by rfl) p HP.out.1 (by rfl) (by rfl) ?_)
              | (go_at_call 14; refine hnum.mono ?_; rintro e w9 ⟨rfl, hb9⟩; have H9 := Lib.hid (H8.out.2.2.below hb9); clear hb9))
            go_round
            case rel => exact ⟨k + 1, by omega, by go_num, H9.out⟩
            case measure => simp [intOf]; omega
          · obtain rfl : k = M := by omega
            go_wp2_with fail
            go_ret
            exact ⟨rfl, HR.out.bel⟩
      -- }
end Go.Proofs.YtjmjfgbpjecgfaaDoor
