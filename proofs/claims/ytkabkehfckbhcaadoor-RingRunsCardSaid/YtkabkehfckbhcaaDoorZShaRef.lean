/-
  sha: Sum, of the reference.
-/
import Derived.Test.YtkabkehfckbhcaaDoorMgF
import Derived.Test.YtkabkehfckbhcaaDoorZShaRound
namespace Go.Proofs.YtkabkehfckbhcaaDoor
set_option linter.unusedVariables false
set_option linter.unusedSimpArgs false
open Go.RowKit

set_option maxRecDepth 100000 in
set_option maxHeartbeats 4000000 in
theorem sumR_any (w : World) (A : Option Addr) (k c : Nat) (m : List Nat) (HL : Hid (k = m.length)) (hm : IsBytes w A m) (hc0 : A = none → c = 0) (hlen : k ≤ 140737488355000) :
    Calls Tryd.prog 33 #[.slice A k c] w fun e w' => e = .returned (.agg (nv .u8 (digest m))) ∧ Below w.heap.size w w' := by
  have hz := zero_32 (digest m)
  have HM := Lib.hid hm
  clear hm
  go_enter Tryd.func33, Tryd.ntmps33
  have kR : IsBlk (w.alloc (.cells (nv .u8 (orow (digest m) 0)) 23)) w.heap.size (nv .u8 (orow (digest m) 0)) 23 := IsBlk.new w _ _
  have kB : Below w.heap.size w (w.alloc (.cells (nv .u8 (orow (digest m) 0)) 23)) := (Below.refl _ _).alloc (Nat.le_refl _) _
  have HE := Lib.hid (And.intro kR kB)
  clear kR kB
  go_wp2_with (first
    | (at_builtin; refine wpList_app' rfl (.const (.slice none 0 0)) (.tmp 10) rfl (w.heap.size + 1) (.slice none 0 0) [] rfl (Own.nil _ _) A k c m rfl HL.out (by exact IsBytes.alloc HM.out _) hc0 (by have := HL.out; simp; omega) (by simp) ?_; intro v1 w2 ho2 hb2 hg2 hv2; simp only [Nat.zero_add, List.nil_append] at ho2; obtain ⟨a2, len2, cap2, rfl, hlen2⟩ := ho2.slice; have hs2 : w.heap.size + 1 ≤ w2.heap.size := (by have := hb2.size; simpa using this); have HQ := Lib.hid (And.intro ho2 hb2); clear ho2 hb2 hg2 hv2)
    | (at_builtin; refine wpList_app rfl (.tmp 12) (.tmp 13) rfl (w.heap.size + 1) (.slice a2 len2 cap2) m rfl (HQ.out.1.alloc _) (some ⟨w2.heap.size, 0, none⟩) 1 [128] rfl (by exact one_byte w2 128 (by decide)) (by simp) (by have := HL.out; simp; omega) (by simp; omega) ?_; intro v3 w3 ho3 hb3 hg3 hv3; obtain ⟨a3, len3, cap3, rfl, hlen3⟩ := ho3.slice; have HR := Lib.hid (And.intro ho3 hb3); clear ho3 hb3 hg3 hv3))
  have hB : Below (w.heap.size + 1) (w.alloc (.cells (nv .u8 (orow (digest m) 0)) 23)) w3 := HQ.out.2.trans (((Below.refl _ _).alloc hs2 _).trans HR.out.2)
  have hs : (w.alloc (.cells (nv .u8 (orow (digest m) 0)) 23)).heap.size = w.heap.size + 1 := by simp
  have HW := Lib.hid (And.intro hB (And.intro HE.out.1 (And.intro HE.out.2 (And.intro HR.out.1 hs))))
  clear hB hs HE HQ HR hlen2 hlen3 hs2 HM
  generalize w.alloc (.cells (nv .u8 (orow (digest m) 0)) 23) = W at *
  go_loopg [3] (zeros m.length) (fun g s3 wr => ∃ j : Nat, g = zeros m.length - j ∧ j ≤ zeros m.length ∧ Own wr (w.heap.size + 1) s3 (m ++ 128 :: List.replicate j 0) ∧ Below (w.heap.size + 1) W wr)
  case atStart => exact ⟨0, rfl, by omega, HW.out.2.2.2.1, HW.out.1⟩
  case round =>
    obtain ⟨j, hg, hj, hown, hbel⟩ := hrel
    have hz64 := zeros_lt m.length
    obtain ⟨a4, cap4, rfl, -, -, -, -⟩ := hown.form
    have hL : (m ++ 128 :: List.replicate j 0).length = m.length + 1 + j := by simp; omega
    obtain ⟨L, hLe⟩ : ∃ L, L = (m ++ 128 :: List.replicate j 0).length := ⟨_, rfl⟩
    rw [← hLe] at hown ⊢
    have hL2 : L = m.length + 1 + j := by omega
    have hlast := zeros_last m.length j hj
    have hbw : w.heap.size + 1 ≤ wr.heap.size := by have := hbel.size; have := HW.out.2.2.2.2; omega
    have hkm := HL.out
    have hLs : L ≤ 140737488355100 := by omega
    by_cases hje : j = zeros m.length
    · have ht : (((L : Int) % 64) != 56) = false := by simp; omega
      subst hje
      obtain ⟨T, hT⟩ : ∃ T, T = m ++ 128 :: List.replicate (zeros m.length) 0 := ⟨_, rfl⟩
      obtain ⟨N, hN⟩ : ∃ N, N = m.length * 8 % 18446744073709551616 := ⟨_, rfl⟩
      rw [← hT] at hown hLe
      have hTL : T.length ≤ 140737488355100 := by omega
      have hT56 : T.length % 64 = 56 := by rw [← hLe]; omega
      have HO4 := Lib.hid (And.intro hown (And.intro hbel (And.intro hT (And.intro hN (And.intro hTL (And.intro hLe hT56))))))
      have X : (k : Int) * 8 = (N : Int) := by omega
      have hN6 : N < 18446744073709551616 := by omega
      clear hown hbel hLe hL hL2 hlast hj hg hT hTL hbw hT56 hN hkm
      go_wp2
      go_loopg [3, 5] 8 (fun g s3 s5 wr => ∃ i : Nat, s5 = .int .i64 i ∧ i ≤ 8 ∧ g = 8 - i ∧ Own wr (w.heap.size + 1) s3 (T ++ (be8 N).take i) ∧ Below (w.heap.size + 1) W wr)
      case atStart => exact ⟨0, rfl, by omega, rfl, by simpa using HO4.out.1, HO4.out.2.1⟩
      case round =>
        obtain ⟨i, rfl, hi2, hg, hown, hbel⟩ := hrel
        have hbw : w.heap.size + 1 ≤ wr.heap.size := by have := hbel.size; have := HW.out.2.2.2.2; omega
        obtain ⟨a5, cap5, rfl, -, -, -, -⟩ := hown.form
        obtain ⟨L2, hLe⟩ : ∃ L2, L2 = (T ++ (be8 N).take i).length := ⟨_, rfl⟩
        rw [← hLe] at hown ⊢
        have hLs2 : L2 ≤ 140737488355200 := by rw [hLe]; simp [be8_length]; have := HO4.out.2.2.2.2.1; omega
        by_cases hi0 : i < 8
        · obtain ⟨y, hy⟩ : ∃ y, y = N / 2 ^ (56 - 8 * i) % 256 := ⟨_, rfl⟩
          have hyv : (N : Int) / 2 ^ (56 - 8 * i) % 256 = (y : Int) := by rw [hy]; simp
          have hy256 : y < 256 := by omega
          have hnew : T ++ (be8 N).take (i + 1) = (T ++ (be8 N).take i) ++ [y] := by
            rw [be8_take N i hi0, hy, List.append_assoc]
          have HO5 := Lib.hid (And.intro hown (And.intro hbel (And.intro hLe (And.intro hg hnew))))
          clear hown hbel hLe hg hnew hy
          go_wp2_with (at_builtin; refine wpList_app rfl (.tmp 30) (.tmp 37) rfl (w.heap.size + 1) (.slice a5 L2 cap5) (T ++ (be8 N).take i) rfl (HO5.out.1.alloc _) (some ⟨wr.heap.size, 0, none⟩) 1 [y] rfl (by exact one_byte wr y hy256) (by simp) (by have := HO5.out.2.2.1; simp only [List.length_singleton]; omega) (by simp; omega) ?_; intro v5 w5 ho5 hb5 hg5 hv5; have HR5 := Lib.hid (And.intro ho5 hb5); clear ho5 hb5 hg5 hv5)
          go_roundg (8 - (i + 1))
          case measure => have := HO5.out.2.2.2.1; omega
          case rel => exact ⟨i + 1, by go_num, by omega, rfl, by rw [HO5.out.2.2.2.2]; exact HR5.out.1, HO5.out.2.1.trans (((Below.refl _ _).alloc hbw _).trans HR5.out.2)⟩
        · have hi8 : i = 8 := by omega
          have htk : (be8 N).take i = be8 N := List.take_of_length_le (by rw [be8_length, hi8]; exact Nat.le_refl _)
          rw [htk] at hown hLe
          have hPL : T ++ be8 N = m ++ pad m.length := by rw [HO4.out.2.2.1, HO4.out.2.2.2.1]; simp [pad]
          have hL64 : L2 % 64 = 0 := by rw [hLe, List.length_append, be8_length]; have := HO4.out.2.2.2.2.2.2; omega
          have hL0 : 64 ≤ L2 := by rw [hLe, List.length_append, be8_length]; have := HO4.out.2.2.2.2.2.2; omega
          rw [hPL] at hown hLe
          obtain ⟨P, hP⟩ : ∃ P, P = m ++ pad m.length := ⟨_, rfl⟩
          rw [← hP] at hown hLe
          obtain ⟨gb, cap6, he6, hbs6, -, hgb, hgw, hcl, hcm⟩ := hown.block (by rintro rfl; simp at hLe; omega)
          injection he6 with he1 he2 he3
          subst he1
          subst he3
          clear he2
          unfold maxLen at hcm
          rw [← hLe] at hcl
          have HO5 := Lib.hid (And.intro hown (And.intro hbel (And.intro hLe (And.intro hP (And.intro hgb hL64)))))
          clear hown hbel hLe hP hgb htk hPL hg hbs6 hgw hL64 hi8
          go_wp2
          go_loopg [6, 7] L2 (fun g s6 s7 wr => ∃ (t nb : Nat) (hs : List Nat), s7 = .int .i64 t ∧ t ≤ L2 ∧ t % 64 = 0 ∧ g = L2 - t ∧ s6 = .slice (some ⟨nb, 0, none⟩) 8 8 ∧ (∀ i, i < 8 → wr.cell? ⟨nb, i, none⟩ = some (.int .u64 ((hs.getD i 0 : Nat) : Int))) ∧ H8 hs ∧ feed h8 P = feed hs (P.drop t) ∧
            Own wr (w.heap.size + 1) (.slice (some ⟨gb, 0, none⟩) L2 cap5) P ∧ Below (w.heap.size + 1) W wr)
          case atStart =>
            refine ⟨0, _, h8, rfl, by omega, rfl, rfl, rfl, fun i hi => ?_, H8.start, rfl, HO5.out.1.alloc _, HO5.out.2.1.alloc hbw _⟩
            exact (IsBlk.new wr (nv .u64 h8) _).cell i (nv_get .u64 h8 i hi)
          case round =>
            clear hbw
            obtain ⟨t, nb, hs, rfl, ht1, ht2, hg, rfl, hcell, hh, hfe, hown, hbel⟩ := hrel
            have hbw : w.heap.size + 1 ≤ wr.heap.size := by have := hbel.size; have := HW.out.2.2.2.2; omega
            by_cases hlt : t < L2
            · have ht64 : t + 64 ≤ L2 := by have := HO5.out.2.2.2.2.2; omega
              obtain ⟨gb', cap6, he6, hbs6, -, hgb, hgw, -, -⟩ := hown.block (by rintro rfl; have := HO5.out.2.2.1; simp at this; omega)
              injection he6 with he1 he2 he3
              injection he1 with he4
              injection he4 with he5 _ _
              subst he5
              have hdl : (P.drop t).length = L2 - t := by rw [List.length_drop, ← HO5.out.2.2.1]
              have hbt := isBytes_take (isBytes_drop hbs6 t) 64 (by omega) (by omega)
              have hpl : ((P.drop t).take 64).length = 64 := by rw [List.length_take]; omega
              have hfe2 : feed h8 P = feed (comp hs ((P.drop t).take 64)) (P.drop (t + 64)) := by rw [hfe, feed_long _ _ (by omega), List.drop_drop]
              have HC := Lib.hid (And.intro hcell (And.intro hh (And.intro hbt (And.intro hpl (And.intro hfe2 (And.intro hown (And.intro hbel hg)))))))
              clear hcell hh hbt hpl hfe2 hown hbel hg hfe hdl hbs6 hgb hgw he2 he3
              go_wp2_with (go_at_call 49; refine (roundR_any nb hs 8 (some ⟨gb, t, none⟩) ((P.drop t).take 64) _ _ HC.out.1 HC.out.2.2.1 HC.out.2.2.2.1 HC.out.2.1.len HC.out.2.1.lt).mono ?_; rintro e w6 ⟨nb6, rfl, hc6, hb6⟩; have H6 := Lib.hid (And.intro hc6 hb6); clear hc6 hb6)
              go_roundg (L2 - (t + 64))
              case measure => have := HC.out.2.2.2.2.2.2.2; omega
              case rel =>
                exact ⟨t + 64, nb6, comp hs ((P.drop t).take 64), by go_num, ht64, by omega, rfl, rfl, H6.out.1, H8.comp _ _, HC.out.2.2.2.2.1, HC.out.2.2.2.2.2.1.below H6.out.2, HC.out.2.2.2.2.2.2.1.trans (H6.out.2.mono hbw)⟩
            · have htl : t = L2 := by omega
              have hdrop : P.drop t = [] := List.drop_of_length_le (by rw [htl, HO5.out.2.2.1]; exact Nat.le_refl _)
              rw [hdrop, feed_short hs [] (by decide)] at hfe
              have hD : digest m = outOf hs := by
                have h1 := HO5.out.2.2.2.1
                unfold digest
                rw [← h1, hfe]
              have kR2 := HW.out.2.1.below hbel (by omega)
              have hB2 := HW.out.2.2.1.trans (hbel.mono (by omega))
              have HC := Lib.hid (And.intro hcell (And.intro hh (And.intro hD (And.intro kR2 hB2))))
              clear hcell hh hD kR2 hB2 hbel hown hfe hdrop htl hg
              have hnw : nb < wr.heap.size := cell?_some_lt (HC.out.1 0 (by decide))
              go_wp2
              have kO3 := IsBlk.new wr (nv .u8 (orow (digest m) 0)) 23
              have kR3 := HC.out.2.2.2.1.alloc (.cells (nv .u8 (orow (digest m) 0)) 23)
              have hA : Below wr.heap.size wr (wr.alloc (.cells (nv .u8 (orow (digest m) 0)) 23)) := (Below.refl _ _).alloc (Nat.le_refl _) _
              have hc7 : ∀ i, i < 8 → (wr.alloc (.cells (nv .u8 (orow (digest m) 0)) 23)).cell? ⟨nb, i, none⟩ = some (.int .u64 ((hs.getD i 0 : Nat) : Int)) := fun i hi => (hA.cell (p := ⟨nb, i, none⟩) hnw).trans (HC.out.1 i hi)
              have hB7 := HC.out.2.2.2.2.trans (hA.mono HC.out.2.2.2.2.size)
              have hob : w.heap.size < wr.heap.size := by omega
              have HD3 := Lib.hid (And.intro kO3 (And.intro kR3 (And.intro hc7 hB7)))
              have HD := Lib.hid (And.intro HC.out.2.1 HC.out.2.2.1)
              clear kO3 kR3 hA hc7 hB7 HC hbw
              generalize wr.alloc (.cells (nv .u8 (orow (digest m) 0)) 23) = W7 at *
              generalize wr.heap.size = ob at *
              go_loopg [9] 32 (fun g s9 wx => ∃ i : Nat, s9 = .int .i64 i ∧ i ≤ 32 ∧ g = 32 - i ∧ IsBlk wx ob (nv .u8 (orow (digest m) i)) 23 ∧ IsBlk wx w.heap.size (nv .u8 (orow (digest m) 0)) 23 ∧ (∀ i, i < 8 → wx.cell? ⟨nb, i, none⟩ = some (.int .u64 ((hs.getD i 0 : Nat) : Int))) ∧ Below w.heap.size w wx)
              case atStart => exact ⟨0, rfl, by omega, rfl, HD3.out.1, HD3.out.2.1, HD3.out.2.2.1, HD3.out.2.2.2⟩
              case round =>
                clear HD3
                obtain ⟨i, rfl, hi, hg, hblk, hkr, hcell, hbel⟩ := hrel
                by_cases hlt : i < 32
                · have hx := HD.out.1.lt (i / 4)
                  have c0 := hcell (i / 4) (by omega)
                  have c1 := hblk.cell i (nv_get .u8 _ i (by rw [orow_length]; omega))
                  have hfz := hblk.fz i
                  have d0 : (digest m).getD i 0 = hs.getD (i / 4) 0 / 2 ^ (24 - 8 * (i % 4)) % 256 := by rw [HD.out.2, outOf_get _ _ hlt]
                  have HE := Lib.hid (And.intro hblk (And.intro hkr (And.intro hcell (And.intro hbel (And.intro hg d0)))))
                  clear hblk hkr hcell hbel hg d0
                  generalize hs.getD (i / 4) 0 = x at *
                  go_wp2_with fail
                  go_roundg (32 - (i + 1))
                  case measure => have := HE.out.2.2.2.2.1; omega
                  case rel =>
                    have hv : (x : Int) / 2 ^ (24 - 8 * (i % 4)) % 256 = (((digest m).getD i 0 : Nat) : Int) := by rw [HE.out.2.2.2.2.2]; simp
                    have hs1 := HE.out.1.set i (.int .u8 ((digest m).getD i 0 : Nat))
                    rw [nv_set, orow_set _ _ hlt] at hs1
                    rw [hv]
                    exact ⟨i + 1, by go_num, by omega, rfl, hs1, HE.out.2.1.setOther ⟨ob, i, none⟩ _ (by simp; omega), fun q hq => (cell_set_far (by omega)).trans (HE.out.2.2.1 q hq), HE.out.2.2.2.1.setCell (p := ⟨ob, i, none⟩) (by simp; omega) _⟩
                · obtain rfl : i = 32 := by omega
                  rw [orow_end _ (digest_length m)] at hblk
                  have HE := Lib.hid (And.intro hblk (And.intro hkr hbel))
                  clear hblk hkr hbel hcell hg
                  go_wp2_with (first
                    | (refine wpList_load_row (by rfl) 23 (.tmp 8) (by rfl) ob (by rfl) 23 (nv .u8 (digest m)) (0, 0) (.array 32 5) HE.out.1 (by kernel_rfl) rfl (by rw [nv_size, digest_length]; kernel_rfl) ?_)
                    | (refine wpList_store_row (by rfl) 23 (.tmp 2) (.tmp 70) (by rfl) w.heap.size (nv .u8 (digest m)) (by rfl) (by rfl) 23 (nv .u8 (orow (digest m) 0)) HE.out.2.1 (by rw [nv_size, digest_length]; kernel_rfl) (by rw [nv_size, nv_size, orow_length, digest_length]) (nv_one _ _) ?_))
                  refine bodyPost_ret (v := .agg (nv .u8 (digest m))) (results_cell_row Tryd.results33 _ _ w.heap.size 23 (nv .u8 (digest m)) (0, 0) (.array 32 5) (by rfl) ?_ (by kernel_rfl) rfl (by rw [nv_size, digest_length]; kernel_rfl)) rfl ⟨rfl, ?_⟩
                  · exact isBlk_setRow HE.out.2.1 _
                  · exact below_setRow HE.out.2.2 _ (Nat.le_refl _) _
    · have ht : (((L : Int) % 64) != 56) = true := by simp; omega
      have HO4 := Lib.hid (And.intro hown (And.intro hbel (And.intro hLe (And.intro hj (And.intro hg hje)))))
      clear hown hbel hLe hL hL2 hlast hg hj hje hkm
      go_wp2_with (at_builtin; refine wpList_app rfl (.tmp 19) (.tmp 20) rfl (w.heap.size + 1) (.slice a4 L cap4) (m ++ 128 :: List.replicate j 0) rfl (HO4.out.1.alloc _) (some ⟨wr.heap.size, 0, none⟩) 1 [0] rfl (by exact one_byte wr 0 (by decide)) (by simp) (by have := HO4.out.2.2.1; simp only [List.length_singleton]; omega) (by simp; omega) ?_; intro v5 w5 ho5 hb5 hg5 hv5; have HR5 := Lib.hid (And.intro ho5 hb5); clear ho5 hb5 hg5 hv5)
      go_roundg (zeros m.length - (j + 1))
      case measure => have := HO4.out.2.2.2; omega
      case rel =>
        refine ⟨j + 1, rfl, by have := HO4.out.2.2.2; omega, ?_, HO4.out.2.1.trans (((Below.refl _ _).alloc hbw _).trans HR5.out.2)⟩
        have := HR5.out.1
        rw [List.append_assoc, List.cons_append, ← List.replicate_succ'] at this
        exact this
end Go.Proofs.YtkabkehfckbhcaaDoor
