/-
  ring: the reference's Sectors: its head.
-/
import Derived.Test.YtkabkehfckbhcaaDoorZRgROpen
import Derived.Test.YtkabkehfckbhcaaDoorZRgSecI
import Derived.Deep.DeepCutAuto
namespace Go.Proofs.YtkabkehfckbhcaaDoor
set_option linter.unusedVariables false
set_option linter.unusedSimpArgs false
open Go.RowKit

theorem head_bytes (num k : Nat) (hk : k < 256) : (putL (zeroPg.set 0 84) 1 (leB 8 num)).set 9 k = padPg (headB num k) := by
  rw [← headB_put num k hk]
  have hl : (leB 8 num).length = 8 := leB_length 8 num
  apply List.ext_getElem?
  intro i
  rw [List.getElem?_set, putL_get (by simp [hl, zeroPg]), putL_get (by simp [hl, zeroPg]), putL_length (by simp [hl, zeroPg]), hl]
  simp only [List.length_set]
  by_cases h9 : 9 = i
  · subst h9
    have c : ¬ (1 ≤ 9 ∧ 9 < 1 + 8) := by omega
    rw [if_neg c]
    simp [zeroPg]
  · rw [if_neg h9]
    by_cases h1 : 1 ≤ i ∧ i < 1 + 8
    · rw [if_pos h1, if_pos h1]
    · rw [if_neg h1, if_neg h1, List.getElem?_set (i := 9), if_neg h9]
theorem putL_none (l : List Nat) (o x : Nat) : putL l o (leB 0 x) = l := by
  show l.take o ++ [] ++ l.drop (o + 0) = l
  simp
/-- What Sectors is asked of. -/
structure SecH (W : World) (place : Int) (num : Nat) (last : List Nat) (ca : Option Addr) (l : List CH) : Prop where
  len : last.length = 32
  byte : ∀ c ∈ last, c < 256
  num : num < 18446744073709551616
  chs : IsChs W ca l
  k : l.length ≤ 64
set_option maxRecDepth 100000 in
set_option maxHeartbeats 8000000 in
theorem sectors_walk {W : World} {place : Int} {num : Nat} {last : List Nat} {ca : Option Addr} {cc k : Nat} {l : List CH} (H : SecH W place num last ca l) (hk : k = l.length) : Calls Tryd.prog 12 #[markV place num last, .slice ca k cc] W fun e w' => ∃ v, e = .returned (.tuple #[v, .agg (nv .u8 (recSum last num l))]) ∧ RowF w' W.heap.size 48 64 bv v (recPgs last num l) ∧ Below W.heap.size W w' := by
  have HH := Lib.hid (And.intro H hk)
  have hk64 : k ≤ 64 := by rw [hk]; exact H.k
  have hn64 : (num : Int) < 18446744073709551616 := by have := H.num; omega
  clear H hk
  go_enter Tryd.func12, Tryd.ntmps12
  unfold markV
  go_upto_region 1 with (refine wpList_alloc_info (by rfl) 23 (by rfl) (.agg (nv .u8 Z32)) (nv .u8 Z32) (by kernel_rfl) rfl ?_)
  have hmk : IsBlk (W.alloc (.cells (.int .i64 place :: .int .u64 num :: bv last).toArray 38)) W.heap.size (.int .i64 place :: .int .u64 num :: bv last).toArray 38 := IsBlk.new _ _ _
  have hb1 : Below W.heap.size W (W.alloc (.cells (.int .i64 place :: .int .u64 num :: bv last).toArray 38)) := (Below.refl _ _).alloc (Nat.le_refl _) _
  generalize W.alloc (.cells (.int .i64 place :: .int .u64 num :: bv last).toArray 38) = w1 at hmk hb1 ⊢
  have hsm : IsBlk (w1.alloc (.cells (nv .u8 Z32) 23)) w1.heap.size (nv .u8 Z32) 23 := IsBlk.new _ _ _
  have hb2 : Below w1.heap.size w1 (w1.alloc (.cells (nv .u8 Z32) 23)) := (Below.refl _ _).alloc (Nat.le_refl _) _
  generalize w1.alloc (.cells (nv .u8 Z32) 23) = w2 at hsm hb2 ⊢
  have H2 := Lib.hid (And.intro (hmk.below hb2 hmk.lt) (And.intro hsm (And.intro (hb1.trans (hb2.mono hb1.size)) hb1.size)))
  clear hmk hb1 hsm hb2
  generalize w1.heap.size = rc at *
  go_upto_region 3 with (refine wpList_alloc_info (by rfl) 48 (by rfl) (.agg (nv .u8 zeroPg)) (nv .u8 zeroPg) (by kernel_rfl) rfl ?_)
  change Code.wp _ _ _ _ (w2.alloc (.cells (nv .u8 zeroPg) 48))
  have hn : IsBlk (w2.alloc (.cells (nv .u8 zeroPg) 48)) w2.heap.size (nv .u8 zeroPg) 48 := IsBlk.new _ _ _
  have hb : Below w2.heap.size w2 (w2.alloc (.cells (nv .u8 zeroPg) 48)) := (Below.refl _ _).alloc (Nat.le_refl _) _
  generalize w2.alloc (.cells (nv .u8 zeroPg) 48) = w3 at hn hb ⊢
  obtain ⟨pp, hpp⟩ : ∃ pp, pp = w2.heap.size := ⟨_, rfl⟩
  rw [← hpp] at hn hb ⊢
  have HPP := Lib.hid hpp
  clear hpp
  have z0 := hn.cell 0 (v := .int .u8 0) rfl
  have f0 := hn.fz 0
  have n1 := hn.set 0 (.int .u8 84)
  rw [show ((84 : Int)) = ((84 : Nat) : Int) from rfl, nv_set, show (((84 : Nat) : Int)) = (84 : Int) from rfl] at n1
  have hb3 : Below pp w2 (w3.setCell ⟨pp, 0, none⟩ (.int .u8 84)) := hb.trans (((But.refl (fun k => k = pp) w3).setCell (p := ⟨pp, 0, none⟩) rfl _).below (Nat.le_of_lt hn.lt) (fun k hk => by rw [hk]; exact Nat.le_refl _))
  have H3 := Lib.hid (And.intro n1 hb3)
  clear hn hb n1 hb3
  go_upto_region 4 with fail
  generalize w3.setCell ⟨pp, 0, none⟩ (.int .u8 84) = w4 at H3 ⊢
  clear z0 f0
  go_upto_block 0 with fail
  go_cut [8] (fun _ wx => Hid (IsBlk wx pp (nv .u8 (putL (zeroPg.set 0 84) 1 (leB 8 num))) 48 ∧ Below pp w2 wx))
  case first =>
    -- {
    go_wp2_with fail
    go_loopw [8] (fun i wr => ∃ j : Nat, j ≤ 8 ∧ i = .int .i64 j ∧ Hid (IsBlk wr pp (nv .u8 (putL (zeroPg.set 0 84) 1 (leB j num))) 48 ∧ Below pp w2 wr)) (fun i _ => 8 - (intOf i).toNat)
    case atStart => exact ⟨0, by omega, rfl, by rw [putL_none]; exact H3.out.1, H3.out.2⟩
    case round =>
      obtain ⟨j, hj, rfl, HR⟩ := hrel
      by_cases hjl : j < 8
      · have j1 : (j : Int) < 8 := by omega
        have hpl : (putL (zeroPg.set 0 84) 1 (leB j num)).length = 64 := by rw [putL_length (by rw [leB_length]; simp [zeroPg]; omega)]; simp [zeroPg]
        have hcell := HR.out.1.cell (1 + j) (nv_get .u8 _ (1 + j) (by omega))
        have hfz := HR.out.1.fz (1 + j)
        have hval : (num : Int) / 2 ^ (8 * j) % 256 = ((num / 2 ^ (8 * j) % 256 : Nat) : Int) := by simp
        have hst : IsBlk (wr.setCell ⟨pp, 1 + j, none⟩ (.int .u8 ((num : Int) / 2 ^ (8 * j) % 256))) pp (nv .u8 (putL (zeroPg.set 0 84) 1 (leB (j + 1) num))) 48 := by
          have := HR.out.1.set (1 + j) (.int .u8 ((num : Int) / 2 ^ (8 * j) % 256))
          rw [hval, nv_set, putL_snoc (by simp [zeroPg]; omega)] at this
          rw [hval]
          exact this
        have hbt : Below pp w2 (wr.setCell ⟨pp, 1 + j, none⟩ (.int .u8 ((num : Int) / 2 ^ (8 * j) % 256))) := HR.out.2.trans (((But.refl (fun k => k = pp) wr).setCell (p := ⟨pp, 1 + j, none⟩) rfl _).below (Nat.le_of_lt HR.out.1.lt) (fun k hk => by rw [hk]; exact Nat.le_refl _))
        have c4 := (H2.out.1.below (HR.out.2.mono (Nat.le_of_eq HPP.out.symm)) H2.out.1.lt).cell 1 (v := .int .u64 ((num : Nat) : Int)) rfl
        have HS := Lib.hid (And.intro hst hbt)
        clear hst hbt hval hpl
        have y1 : (0 : Int) ≤ 1 + (j : Int) := by omega
        have y2 : 1 + (j : Int) < 64 := by omega
        have t1 : (1 + (j : Int)).toNat = 1 + j := by omega
        have v1 : IntKind.i64.wrap (1 + (j : Int)) = 1 + (j : Int) := IntWalk.i64_in _ ⟨by omega, by omega⟩
        have v2 : IntKind.i64.wrap (8 * (j : Int)) = 8 * (j : Int) := IntWalk.i64_in _ ⟨by omega, by omega⟩
        have y3 : (0 : Int) ≤ 8 * (j : Int) := by omega
        have t2 : (8 * (j : Int)).toNat = 8 * j := by omega
        go_wp2_with fail
        go_round
        case rel => exact ⟨j + 1, by omega, by go_num, HS.out⟩
        case measure => simp [intOf]; omega
      · obtain rfl : j = 8 := by omega
        go_wp2_with fail
        go_meet
        exact HR.out
    -- }
  case rest =>
    have HC := hcut
    obtain ⟨w5, hw5⟩ : ∃ w : World, w = wc := ⟨_, rfl⟩
    subst hw5
    have hpl : (putL (zeroPg.set 0 84) 1 (leB 8 num)).length = 64 := by rw [putL_length (by rw [leB_length]; simp [zeroPg])]; simp [zeroPg]
    have z9 := HC.out.1.cell 9 (nv_get .u8 _ 9 (by omega))
    have f9 := HC.out.1.fz 9
    have hwk : IntKind.u8.wrap (k : Int) = (k : Int) := by rw [IntKind.wrap_u8]; omega
    have n9 := HC.out.1.set 9 (.int .u8 ((k : Nat) : Int))
    rw [nv_set, head_bytes num k (by omega)] at n9
    have hb9 : Below pp w2 (w5.setCell ⟨pp, 9, none⟩ (.int .u8 (k : Int))) := HC.out.2.trans (((But.refl (fun k => k = pp) w5).setCell (p := ⟨pp, 9, none⟩) rfl _).below (Nat.le_of_lt HC.out.1.lt) (fun k hk => by rw [hk]; exact Nat.le_refl _))
    have H9 := Lib.hid (And.intro n9 hb9)
    clear n9 hb9 hpl
    go_upto_region 9 with fail
    generalize w5.setCell ⟨pp, 9, none⟩ (.int .u8 (k : Int)) = w8 at H9 ⊢
    clear z9 f9 hwk
    have hb28 : Below w2.heap.size w2 w8 := H9.out.2.mono (Nat.le_of_eq HPP.out.symm)
    have hmk8 := H2.out.1.below hb28 H2.out.1.lt
    have HE : Hid (SecE W w8 rc) := Lib.hid ⟨H2.out.2.1.below hb28 H2.out.2.1.lt, H2.out.2.2.2, H2.out.2.2.1.trans (hb28.mono H2.out.2.2.1.size)⟩
    have hrl : IsBytes w8 (some ⟨W.heap.size, 2, none⟩) last := isBytes_range (isBlk_range hmk8 2 (fun i v hv => by rw [Nat.add_comm]; exact hv)) HH.out.1.byte
    obtain ⟨hb, hhb⟩ : ∃ hb, hb = w8.heap.size := ⟨_, rfl⟩
    have HB := Lib.hid (And.intro hhb hrl)
    clear hb28 hmk8 hrl hhb
    go_upto_region 10 with (at_builtin; refine wpList_app' rfl (.const (.slice none 0 0)) (.tmp 36) rfl hb (.slice none 0 0) [] rfl (Own.nil _ _) (some ⟨W.heap.size, 2, none⟩) 32 32 last rfl HH.out.1.len.symm HB.out.2 (by intro e; cases e) (by rw [HH.out.1.len]; decide) (by rw [HB.out.1]; exact Nat.le_refl _) ?_; intro v4 w9 ho4 hb4 hg4 hv4; simp only [List.nil_append] at ho4; have H10 := Lib.hid (And.intro ho4 hb4); clear ho4 hb4 hg4 hv4)
    obtain ⟨a4, n4, c4, e4, HL4⟩ := H10.out.1.slice
    subst e4
    have hb89 : Below w8.heap.size w8 w9 := by rw [← HB.out.1]; exact H10.out.2
    have hp9 := H9.out.1.below hb89 H9.out.1.lt
    have hpl : ((padPg (headB num k)).take 10).length = 10 := by rw [List.length_take, padPg_length _ (by rw [headB_length]; decide)]; rfl
    have hpe : (padPg (headB num k)).take 10 = headB num k := by unfold padPg; rw [List.take_append_of_le_length (by rw [headB_length]; decide), List.take_of_length_le (by rw [headB_length]; decide)]
    have hbl9 : IsBytes w9 (some ⟨pp, 0, none⟩) (headB num k) := isBytes_blk hp9 0 (headB_byte _ _) (fun i hi => by rw [Nat.zero_add, padPg_get, if_pos hi])
    have HP9 := Lib.hid (And.intro hbl9 hp9)
    clear hbl9 hpl hpe hb89 hp9
    go_upto_region 11 with (at_builtin; refine wpList_app' rfl (.tmp 38) (.tmp 39) rfl hb (.slice a4 n4 c4) last rfl H10.out.1 (some ⟨pp, 0, none⟩) 10 64 (headB num k) rfl (headB_length _ _).symm HP9.out.1 (by intro e; cases e) (by rw [HH.out.1.len, headB_length]; decide) (by have := H10.out.2.size; have := HB.out.1; omega) ?_; intro v5 w10 ho5 hb5 hg5 hv5; have H11 := Lib.hid (And.intro ho5 (H10.out.2.trans hb5)); clear ho5 hb5 hg5 hv5)
    have hb810 : Below w8.heap.size w8 w10 := by rw [← HB.out.1]; exact H11.out.2
    have hSQ : SecQ w8 w10 (.slice none 0 0) [] v5 (last ++ headB num k) := ⟨⟨hb810, RowF.nil _ _ _ _ _⟩, by rw [← HB.out.1]; exact H11.out.1⟩
    have hp10 := H9.out.1.below hb810 H9.out.1.lt
    have hpl : (padPg (headB num k)).length = 64 := padPg_length _ (by rw [headB_length]; decide)
    have HQ := Lib.hid (And.intro hSQ (And.intro hp10 hpl))
    clear hb810 hSQ hp10 hpl
    go_cut [6] (fun v wx => Hid (SecQ w8 wx v [padPg (headB num l.length)] v5 (last ++ headB num l.length)))
    case first =>
      go_wp2_with (first
        | (refine wpList_load_row (by rfl) 48 (.tmp 7) (by rfl) pp (by rfl) 48 (nv .u8 (padPg (headB num k))) (0, 0) _ HQ.out.2.1 Tryd.underlying48 rfl (info_pg _ HQ.out.2.2) ?_)
        | (refine wpList_pg_slice (by rfl) (.tmp 42) (by rfl) (padPg (headB num k)) HQ.out.2.2 (by rfl) ?_)
        | (refine wpList_app_pgQ (by rfl) (.tmp 41) (.tmp 43) (by rfl) HQ.out.1 rfl HQ.out.2.2 (by rfl) (by rfl) (by decide) fun v' w7 q1 => ?_; have H12 := Lib.hid q1; clear q1))
      go_meet
      rw [← HH.out.2]
      exact H12.out
    case rest =>
      rename_i K1 hK1
      refine hK1 _ _ ?_
      exact sec_idx HE (Lib.hid HH.out.2) HH.out.1.k HH.out.1.len (Lib.hid (HH.out.1.chs.below HE.out.bel)) hcut
end Go.Proofs.YtkabkehfckbhcaaDoor
