/-
  sha: New; Sum of a hash.
-/
import Derived.Test.YtiakkjdkbpbejaaShaWrite
import Derived.Test.YtiakkjdkbpbejaaCommon
import Derived.Deep.MidRow
namespace Go.Proofs.Ytiakkjdkbpbejaa
set_option linter.unusedVariables false
set_option linter.unusedSimpArgs false
open Go.RowKit

theorem new_any (w : World) : Calls Try.prog 11 #[] w fun e w' => e = .returned (.pointer (some ⟨w.heap.size, 0, none⟩)) ∧ w' = w.alloc (.cells (hashC h8 (.slice none 0 0) 0) 42) := by
  go_enter Try.func11, Try.ntmps11
  go_wp2
  go_ret
  exact ⟨rfl, rfl⟩

theorem zeros_last (n j : Nat) (hj : j ≤ zeros n) : (n + 1 + j) % 64 = 56 ↔ j = zeros n := by unfold zeros at *; omega
theorem zeros_lt (n : Nat) : zeros n < 64 := Nat.mod_lt _ (by decide)
theorem be8_take (N j : Nat) (hj : j < 8) : (be8 N).take (j + 1) = (be8 N).take j ++ [N / 2 ^ (56 - 8 * j) % 256] := by
  rw [List.take_succ_eq_append_getElem (by simp [be8]; omega)]
  simp [be8]
theorem be8_length (N : Nat) : (be8 N).length = 8 := by simp [be8]
/-- The bytes of a digest, j of the thirty-two laid. -/
def orow (D : List Nat) (j : Nat) : List Nat := (List.range 32).map fun i => if i < j then D.getD i 0 else 0
theorem orow_length (D : List Nat) (j : Nat) : (orow D j).length = 32 := by simp [orow]
theorem orow_end (D : List Nat) (h : D.length = 32) : orow D 32 = D := by
  apply List.ext_getElem?; intro i
  by_cases hi : i < 32
  · simp [orow, hi, List.getD, List.getElem?_eq_getElem (show i < D.length by omega)]
  · rw [List.getElem?_eq_none (by rw [orow_length]; omega), List.getElem?_eq_none (by omega)]
theorem orow_get (D : List Nat) (j i : Nat) (h : i < 32) : (orow D j).getD i 0 = if i < j then D.getD i 0 else 0 := by simp [orow, List.getD, h]
theorem orow_set (D : List Nat) (j : Nat) (hj : j < 32) : (orow D j).set j (D.getD j 0) = orow D (j + 1) := by
  apply List.ext_getElem?; intro i
  rw [List.getElem?_set]
  by_cases hi : i < 32
  · by_cases he : j = i
    · subst he; simp [orow, hi]
    · rw [if_neg he]
      simp [orow, hi]
      have : (i < j + 1) ↔ (i < j) := by omega
      simp [this]
  · rw [List.getElem?_eq_none (by rw [orow_length]; omega), if_neg (by omega), List.getElem?_eq_none (by rw [orow_length]; omega)]
theorem zero_32' (w : World) : (zeroValue 24).run Try.prog w = .ok (.agg (nv .u8 (List.replicate 32 0))) w := by kernel_rfl
theorem zero_32 (D : List Nat) (w : World) : (zeroValue 24).run Try.prog w = .ok (.agg (nv .u8 (orow D 0))) w := by
  have e : orow D 0 = List.replicate 32 0 := by
    have e : ∀ n : Nat, ((List.range n).map fun i => if i < 0 then D.getD i 0 else 0) = List.replicate n 0 := by
      intro n
      apply List.ext_getElem?; intro i
      by_cases h : i < n <;> simp [List.getElem?_replicate, h]
    exact e 32
  rw [e]
  exact zero_32' w
theorem outOf_get (h : List Nat) (i : Nat) (hi : i < 32) : (outOf h).getD i 0 = h.getD (i / 4) 0 / 2 ^ (24 - 8 * (i % 4)) % 256 := by simp [outOf, List.getD, hi]

/-- One byte in a block of its own. -/
theorem one_byte (w : World) (c : Nat) (hc : c < 256) : IsBytes (w.alloc (.cells #[.int .u8 (c : Int)] 5)) (some ⟨w.heap.size, 0, none⟩) [c] :=
  ⟨by simpa using hc, .inr ⟨_, 0, rfl, fun i hi => by
    have hi0 : i = 0 := by simpa using hi
    subst hi0
    exact (IsBlk.new w #[.int .u8 (c : Int)] 5).cell 0 rfl⟩⟩
theorem run_index_ints {P : Program} {t e : TypeId} {n : Nat} {k : IntKind} (ht : P.underlying t = some (.array n e)) (he : P.underlying e = some (.int k)) (hs : ∀ w, (sizeOf e).run P w = .ok 1 w) (l : List Nat) (hl : l.length = n) (i : Nat) (hi : i < n) (w : World) :
    (Instr.index t (.agg (nv k l)) (.int .i64 (i : Int))).run P w = .ok (.int k ((l.getD i 0 : Nat) : Int)) w := by
  unfold Instr.index
  simp only [asIntOf, Sem.run_bind, Sem.run_pure, Result.andThen_ok, run_underlying ht]
  rw [if_pos ⟨by omega, by omega⟩]
  simp only [Sem.run_bind, hs, Result.andThen_ok]
  exact run_part_int he _ _ _ (by rw [Int.toNat_natCast, Nat.mul_one]; exact nv_get k l i (by omega)) w
theorem hashC_range {w : World} {hb : Nat} {h : List Nat} {v : Value} {n : Nat} (hk : IsBlk w hb (hashC h v n) 42) (hh : h.length = 8) : w.rangeAt hb 0 (nv .u32 h).toList := by
  intro j x hj
  rw [Nat.zero_add]
  have hj8 : j < h.length := by have := (List.getElem?_eq_some_iff.1 hj).1; simpa [nv_size] using this
  refine hk.cell j ?_
  rw [hashC_get h v n j hj8]
  rw [Array.getElem?_toList, nv_get .u32 h j hj8] at hj
  exact hj
theorem not_hashS {hb k : Nat} (h : k ≠ hb) : ¬ HashS hb (.slice none 0 0) k := by
  rintro (e | e)
  · exact h e
  · simp [Value.ownBlock] at e
theorem hashS_is {hb k : Nat} (h : HashS hb (.slice none 0 0) k) : k = hb := by
  rcases h with e | e
  · exact e
  · simp [Value.ownBlock] at e
theorem u8w (x : Nat) : IntKind.u8.wrap (x : Int) = ((x % 256 : Nat) : Int) := by rw [IntKind.wrap_u8]; omega

/-- What Sum adds behind the bytes that wait. -/
def tailOf (r n : Nat) : List Nat := 128 :: List.replicate (zeros r) 0 ++ be8 n

set_option maxRecDepth 100000 in
set_option maxHeartbeats 4000000 in
theorem sumH_any (w : World) (base hb : Nat) (v : Value) (h rest : List Nat) (n : Nat) (hi : IsHash w base hb v h rest n) (hr : rest.length < 64) (hn : n < 18446744073709551616) (hbase : base ≤ w.heap.size) (D : List Nat) (hD : D = outOf (feed h (rest ++ tailOf rest.length (n * 8 % 18446744073709551616))).1) :
    Calls Try.prog 13 #[.pointer (some ⟨hb, 0, none⟩)] w fun e w' => e = .returned (.agg (nv .u8 D)) ∧ Below w.heap.size w w' := by
  obtain ⟨hblk, hown, hne, hfb, hh⟩ := hi
  have e8 := hblk.cell 8 (hashC_rest h v n hh.len)
  have e9 := hblk.cell 9 (hashC_n h v n hh.len)
  have hlt := hblk.lt
  obtain ⟨h0, h1, h2, h3, h4, h5, h6, h7, rfl⟩ := list8 h hh.len
  have hc0 := hblk.cell 0 (v := .int .u32 h0) rfl
  have hc1 := hblk.cell 1 (v := .int .u32 h1) rfl
  have hc2 := hblk.cell 2 (v := .int .u32 h2) rfl
  have hc3 := hblk.cell 3 (v := .int .u32 h3) rfl
  have hc4 := hblk.cell 4 (v := .int .u32 h4) rfl
  have hc5 := hblk.cell 5 (v := .int .u32 h5) rfl
  have hc6 := hblk.cell 6 (v := .int .u32 h6) rfl
  have hc7 := hblk.cell 7 (v := .int .u32 h7) rfl
  obtain ⟨sa, scap, rfl, hbs, -, -, -⟩ := hown.form
  have HO := Lib.hid (And.intro hown.capz (And.intro hbs (And.intro hh hD)))
  have hz := zero_32 D
  have f8 : ∀ X Y Z, (((w.alloc X).alloc Y).alloc Z).cell? ⟨hb, 8, none⟩ = some (Value.slice sa rest.length scap) := fun X Y Z => by
    rw [World.cell?_alloc_lt _ _ _ (by simp; omega), World.cell?_alloc_lt _ _ _ (by simp; omega), World.cell?_alloc_lt _ _ _ (by omega)]; exact e8
  clear e8
  clear hown hblk hne hfb hh hbs hD
  go_enter Try.func13, Try.ntmps13
  go_wp2_with (first
    | (at_builtin; refine wpList_app rfl (.const (.slice none 0 0)) (.tmp 20) rfl (w.heap.size + 3) (.slice none 0 0) [] rfl (Own.nil _ _) sa scap rest rfl (by exact IsBytes.alloc (IsBytes.alloc (IsBytes.alloc HO.out.2.1 _) _) _) HO.out.1 (by simp; omega) (by simp) ?_; intro v1 w2 ho2 hb2 hg2 hv2; simp only [Nat.zero_add, List.nil_append] at ho2; obtain ⟨a2, len2, cap2, rfl, hlen2⟩ := ho2.slice; have hs2 : w.heap.size + 3 ≤ w2.heap.size := (by have := hb2.size; simpa using this); have HQ := Lib.hid (And.intro ho2 hb2); clear ho2 hb2 hg2 hv2)
    | (at_builtin; refine wpList_app rfl (.tmp 21) (.tmp 22) rfl (w.heap.size + 3) (.slice a2 len2 cap2) rest rfl (HQ.out.1.alloc _) (some ⟨w2.heap.size, 0, none⟩) 1 [128] rfl (by exact one_byte w2 128 (by decide)) (by simp) (by simp; omega) (by simp; omega) ?_; intro v3 w3 ho3 hb3 hg3 hv3; obtain ⟨a3, len3, cap3, rfl, hlen3⟩ := ho3.slice; have HR := Lib.hid (And.intro ho3 hb3); clear ho3 hb3 hg3 hv3))
  have hB : Below (w.heap.size + 3) (((w.alloc (.cells (nv .u8 (orow D 0)) 24)).alloc (.cells (nv .u8 (orow D 0)) 24)).alloc (.cells #[.int .u32 h0, .int .u32 h1, .int .u32 h2, .int .u32 h3, .int .u32 h4, .int .u32 h5, .int .u32 h6, .int .u32 h7, .slice none 0 0, .int .u64 0] 42)) w3 :=
    HQ.out.2.trans (((Below.refl _ _).alloc hs2 _).trans HR.out.2)
  have kR : IsBlk (((w.alloc (.cells (nv .u8 (orow D 0)) 24)).alloc (.cells (nv .u8 (orow D 0)) 24)).alloc (.cells #[.int .u32 h0, .int .u32 h1, .int .u32 h2, .int .u32 h3, .int .u32 h4, .int .u32 h5, .int .u32 h6, .int .u32 h7, .slice none 0 0, .int .u64 0] 42)) w.heap.size (nv .u8 (orow D 0)) 24 :=
    ((IsBlk.new w _ _).alloc _).alloc _
  have kO : IsBlk (((w.alloc (.cells (nv .u8 (orow D 0)) 24)).alloc (.cells (nv .u8 (orow D 0)) 24)).alloc (.cells #[.int .u32 h0, .int .u32 h1, .int .u32 h2, .int .u32 h3, .int .u32 h4, .int .u32 h5, .int .u32 h6, .int .u32 h7, .slice none 0 0, .int .u64 0] 42)) (w.heap.size + 1) (nv .u8 (orow D 0)) 24 := by
    have := (IsBlk.new (w.alloc (.cells (nv .u8 (orow D 0)) 24)) (nv .u8 (orow D 0)) 24).alloc (.cells #[.int .u32 h0, .int .u32 h1, .int .u32 h2, .int .u32 h3, .int .u32 h4, .int .u32 h5, .int .u32 h6, .int .u32 h7, .slice none 0 0, .int .u64 0] 42)
    rwa [World.size_alloc] at this
  have kT : IsBlk (((w.alloc (.cells (nv .u8 (orow D 0)) 24)).alloc (.cells (nv .u8 (orow D 0)) 24)).alloc (.cells #[.int .u32 h0, .int .u32 h1, .int .u32 h2, .int .u32 h3, .int .u32 h4, .int .u32 h5, .int .u32 h6, .int .u32 h7, .slice none 0 0, .int .u64 0] 42)) (w.heap.size + 1 + 1) (hashC [h0, h1, h2, h3, h4, h5, h6, h7] (.slice none 0 0) 0) 42 := by
    have := IsBlk.new ((w.alloc (.cells (nv .u8 (orow D 0)) 24)).alloc (.cells (nv .u8 (orow D 0)) 24)) (hashC [h0, h1, h2, h3, h4, h5, h6, h7] (.slice none 0 0) 0) 42
    rw [World.size_alloc, World.size_alloc] at this
    exact this
  have kW : Below w.heap.size w (((w.alloc (.cells (nv .u8 (orow D 0)) 24)).alloc (.cells (nv .u8 (orow D 0)) 24)).alloc (.cells #[.int .u32 h0, .int .u32 h1, .int .u32 h2, .int .u32 h3, .int .u32 h4, .int .u32 h5, .int .u32 h6, .int .u32 h7, .slice none 0 0, .int .u64 0] 42)) :=
    (((Below.refl _ _).alloc (Nat.le_refl _) _).alloc (by simp) _).alloc (by simp; omega) _
  have kS : (((w.alloc (.cells (nv .u8 (orow D 0)) 24)).alloc (.cells (nv .u8 (orow D 0)) 24)).alloc (.cells #[.int .u32 h0, .int .u32 h1, .int .u32 h2, .int .u32 h3, .int .u32 h4, .int .u32 h5, .int .u32 h6, .int .u32 h7, .slice none 0 0, .int .u64 0] 42)).heap.size = w.heap.size + 3 := by simp
  generalize (((w.alloc (.cells (nv .u8 (orow D 0)) 24)).alloc (.cells (nv .u8 (orow D 0)) 24)).alloc (.cells #[.int .u32 h0, .int .u32 h1, .int .u32 h2, .int .u32 h3, .int .u32 h4, .int .u32 h5, .int .u32 h6, .int .u32 h7, .slice none 0 0, .int .u64 0] 42)) = W at *
  have c9 := (kW.cell (p := ⟨hb, 9, none⟩) hlt).trans e9
  have hownS : Own w3 (w.heap.size + 3) (.slice a3 len3 cap3) (rest ++ [128]) := HR.out.1
  have HW := Lib.hid (And.intro hB (And.intro kR (And.intro kO (And.intro kT (And.intro kW (And.intro c9 (And.intro hownS kS)))))))
  clear hB kR kO kT kW c9 hownS HQ HR hlen2 hlen3 hs2 f8 e9 hc0 hc1 hc2 hc3 hc4 hc5 hc6 hc7 kS
  go_loopg [5] (zeros rest.length) (fun g s5 wr => ∃ j : Nat, g = zeros rest.length - j ∧ j ≤ zeros rest.length ∧ Own wr (w.heap.size + 3) s5 (rest ++ 128 :: List.replicate j 0) ∧ Below (w.heap.size + 3) W wr)
  case atStart => exact ⟨0, rfl, by omega, HW.out.2.2.2.2.2.2.1, HW.out.1⟩
  case round =>
    obtain ⟨j, hg, hj, hown, hbel⟩ := hrel
    have hz64 := zeros_lt rest.length
    obtain ⟨a4, cap4, rfl, -, -, -, -⟩ := hown.form
    have hL : (rest ++ 128 :: List.replicate j 0).length = rest.length + 1 + j := by simp; omega
    obtain ⟨L, hLe⟩ : ∃ L, L = (rest ++ 128 :: List.replicate j 0).length := ⟨_, rfl⟩
    rw [← hLe] at hown ⊢
    have hL2 : L = rest.length + 1 + j := by omega
    have hlast := zeros_last rest.length j hj
    have hbw : w.heap.size + 3 ≤ wr.heap.size := by have := hbel.size; have := HW.out.2.2.2.2.2.2.2; omega
    by_cases hje : j = zeros rest.length
    · have ht : (((L : Int) % 64) != 56) = false := by simp; omega
      subst hje
      obtain ⟨T, hT⟩ : ∃ T, T = rest ++ 128 :: List.replicate (zeros rest.length) 0 := ⟨_, rfl⟩
      obtain ⟨N, hN⟩ : ∃ N, N = n * 8 % 18446744073709551616 := ⟨_, rfl⟩
      rw [← hT] at hown hLe
      have hTL : T.length ≤ 200 := by omega
      have HO4 := Lib.hid (And.intro hown (And.intro hbel (And.intro hT (And.intro hN (And.intro hTL hLe)))))
      clear hown hbel hLe hL hL2 hlast hj hg hT hTL hbw
      have X : IntKind.u64.wrap ((n : Int) * 8) = (N : Int) := by rw [IntKind.wrap_u64]; omega
      have hN6 : N < 18446744073709551616 := by omega
      clear hN
      go_wp2
      go_loopg [5, 6] 8 (fun g s5 s6 wr => ∃ i : Int, s6 = .int .i64 i ∧ -1 ≤ i ∧ i ≤ 7 ∧ g = (i + 1).toNat ∧ Own wr (w.heap.size + 3) s5 (T ++ (be8 N).take (7 - i).toNat) ∧ Below (w.heap.size + 3) W wr)
      case atStart => exact ⟨7, rfl, by omega, by omega, rfl, by simpa using HO4.out.1, HO4.out.2.1⟩
      case round =>
        obtain ⟨i, rfl, hi1, hi2, hg, hown, hbel⟩ := hrel
        have hbw : w.heap.size + 3 ≤ wr.heap.size := by have := hbel.size; have := HW.out.2.2.2.2.2.2.2; omega
        obtain ⟨a5, cap5, rfl, -, -, -, -⟩ := hown.form
        obtain ⟨L2, hLe⟩ : ∃ L2, L2 = (T ++ (be8 N).take (7 - i).toNat).length := ⟨_, rfl⟩
        rw [← hLe] at hown ⊢
        have hLs : L2 ≤ 1000 := by rw [hLe]; simp [be8_length]; have := HO4.out.2.2.2.2.1; omega
        by_cases hi0 : 0 ≤ i
        · obtain ⟨q, rfl⟩ := Int.eq_ofNat_of_zero_le hi0
          have c9 := (hbel.cell (p := ⟨hb, 9, none⟩) (show hb < w.heap.size + 3 by omega)).trans HW.out.2.2.2.2.2.1
          obtain ⟨y, hy⟩ : ∃ y, y = N / 2 ^ (8 * q) % 256 := ⟨_, rfl⟩
          have hyv : (N : Int) / 2 ^ (8 * q) % 256 = (y : Int) := by rw [hy]; simp
          have hy256 : y < 256 := by omega
          have hq : (7 - (q : Int)).toNat = 7 - q := by omega
          have hnew : T ++ (be8 N).take (7 - ((q : Int) - 1)).toNat = (T ++ (be8 N).take (7 - (q : Int)).toNat) ++ [y] := by
            have e1 : (7 - ((q : Int) - 1)).toNat = (7 - q) + 1 := by omega
            rw [e1, hq, be8_take N (7 - q) (by omega), hy, show 56 - 8 * (7 - q) = 8 * q by omega, List.append_assoc]
          have HO5 := Lib.hid (And.intro hown (And.intro hbel (And.intro hLe (And.intro hg hnew))))
          clear hown hbel hLe hg hnew hy hq
          go_wp2_with (at_builtin; refine wpList_app rfl (.tmp 35) (.tmp 45) rfl (w.heap.size + 3) (.slice a5 L2 cap5) (T ++ (be8 N).take (7 - (q : Int)).toNat) rfl (HO5.out.1.alloc _) (some ⟨wr.heap.size, 0, none⟩) 1 [y] rfl (by exact one_byte wr y hy256) (by simp) (by have := HO5.out.2.2.1; simp only [List.length_singleton]; omega) (by simp; omega) ?_; intro v5 w5 ho5 hb5 hg5 hv5; have HR5 := Lib.hid (And.intro ho5 hb5); clear ho5 hb5 hg5 hv5)
          go_roundg q
          case measure => have := HO5.out.2.2.2.1; omega
          case rel => exact ⟨(q : Int) - 1, rfl, by omega, by omega, by omega, by rw [HO5.out.2.2.2.2]; exact HR5.out.1, HO5.out.2.1.trans (((Below.refl _ _).alloc hbw _).trans HR5.out.2)⟩
        · obtain rfl : i = -1 := by omega
          have htk : (be8 N).take (7 - (-1 : Int)).toNat = be8 N := List.take_of_length_le (by rw [be8_length]; decide)
          rw [htk] at hown hLe
          obtain ⟨a6, cap6, he6, hbs6, -, -, hb6⟩ := hown.form
          injection he6 with he1 he2 he3
          subst he1
          subst he3
          clear he2
          have kT2 : IsBlk wr (w.heap.size + 1 + 1) (hashC [h0, h1, h2, h3, h4, h5, h6, h7] (.slice none 0 0) 0) 42 := HW.out.2.2.2.1.below hbel (by omega)
          have hHash : IsHash wr (w.heap.size + 1 + 1) (w.heap.size + 1 + 1) (.slice none 0 0) [h0, h1, h2, h3, h4, h5, h6, h7] [] 0 := ⟨kT2, Own.nil _ _, by simp [Value.ownBlock], Nat.le_refl _, HO.out.2.2.1⟩
          have kR2 := HW.out.2.1.below hbel (by omega)
          have kO2 := HW.out.2.2.1.below hbel (by omega)
          have hWr : Below w.heap.size w wr := HW.out.2.2.2.2.1.trans (hbel.mono (by omega))
          have HO5 := Lib.hid (And.intro hbs6 (And.intro hown.capz (And.intro hHash (And.intro kR2 (And.intro kO2 hWr)))))
          have HLe := Lib.hid hLe
          have HSep : Hid (∀ x, a5 = some x → T ++ be8 N ≠ [] → x.block ≠ w.heap.size + 1 + 1) := fun x hx _ => by have := (hb6 x hx).1; omega
          clear hown hbel hLe hbs6 hb6 kT2 hHash kR2 kO2 hWr htk hg
          go_wp2_with fail
          refine (write_any wr (w.heap.size + 1 + 1) (w.heap.size + 1 + 1) (.slice none 0 0) [h0, h1, h2, h3, h4, h5, h6, h7] [] 0 a5 L2 cap5 (T ++ be8 N) HO5.out.2.2.1 HLe.out HO5.out.1 HO5.out.2.1 (by simp; omega) (by decide) (by omega) HSep.out).mono ?_
          rintro e w4 ⟨rfl, v4, hh4, hb4, -⟩
          have hD2 : D = outOf (feed [h0, h1, h2, h3, h4, h5, h6, h7] ([] ++ (T ++ be8 N))).1 := by
            rw [HO.out.2.2.2, HO4.out.2.2.1, HO4.out.2.2.2.1]; simp [tailOf]
          generalize (feed [h0, h1, h2, h3, h4, h5, h6, h7] ([] ++ (T ++ be8 N))).1 = S at *
          have hrow := hashC_range hh4.blk hh4.h8.len
          have hidx := fun i (hi : i < 8) (w : World) => run_index_ints (P := Try.prog) (t := 40) (e := 39) (n := 8) (k := .u32) (by kernel_rfl) (by kernel_rfl) (fun w => by kernel_rfl) S hh4.h8.len i hi w
          have hSl := hh4.h8.lt
          have hS8 := hh4.h8.len
          have kR4 := hb4.blk HO5.out.2.2.2.1 (not_hashS (by omega))
          have kO4 := hb4.blk HO5.out.2.2.2.2.1 (not_hashS (by omega))
          have hB4 : Below w.heap.size w w4 := HO5.out.2.2.2.2.2.trans ((hb4.below (B := w.heap.size) (by omega) (by intro k hk; have := hashS_is hk; omega)))
          have H4 := Lib.hid (And.intro hrow (And.intro hidx (And.intro hSl (And.intro kR4 (And.intro kO4 (And.intro hB4 (And.intro hD2 hS8)))))))
          clear hrow hidx hSl kR4 kO4 hB4 hD2 hh4 hb4 hS8
          go_wp2_with (refine wpList_load_mid (by rfl) 40 (.tmp 49) (by rfl) (w.heap.size + 1 + 1) 0 (by rfl) (nv .u32 S).toList (.array 8 39) H4.out.1 (by kernel_rfl) (by rfl) (by rw [Array.length_toList, nv_size, H4.out.2.2.2.2.2.2.2]; kernel_rfl) ?_)
          go_loopg [51] 8 (fun g s51 wr => ∃ k : Nat, g = 8 - k ∧ k ≤ 8 ∧ s51 = .int .i64 k ∧ IsBlk wr (w.heap.size + 1) (nv .u8 (orow D (4 * k))) 24 ∧ IsBlk wr w.heap.size (nv .u8 (orow D 0)) 24 ∧ Below w.heap.size w wr)
          case atStart => exact ⟨0, rfl, by omega, rfl, H4.out.2.2.2.2.1, H4.out.2.2.2.1, H4.out.2.2.2.2.2.1⟩
          case round =>
            obtain ⟨k, hg, hk8, rfl, hblk, hkr, hbel⟩ := hrel
            by_cases hlt : k < 8
            · have hx := H4.out.2.2.1 k
              have hix := H4.out.2.1 k hlt
              have c0 := hblk.cell (4 * k) (nv_get .u8 _ (4 * k) (by rw [orow_length]; omega))
              have c1 := hblk.cell (4 * k + 1) (nv_get .u8 _ (4 * k + 1) (by rw [orow_length]; omega))
              have c2 := hblk.cell (4 * k + 2) (nv_get .u8 _ (4 * k + 2) (by rw [orow_length]; omega))
              have c3 := hblk.cell (4 * k + 3) (nv_get .u8 _ (4 * k + 3) (by rw [orow_length]; omega))
              have hfz := hblk.fz
              have HE := Lib.hid (And.intro hblk (And.intro hkr (And.intro hbel hg)))
              clear hblk hkr hbel hg
              have hDS := H4.out.2.2.2.2.2.2.1
              have d0 : D.getD (4 * k) 0 = S.getD k 0 / 16777216 % 256 := by rw [hDS, outOf_get _ _ (by omega), show 4 * k / 4 = k by omega, show 4 * k % 4 = 0 by omega]
              have d1 : D.getD (4 * k + 1) 0 = S.getD k 0 / 65536 % 256 := by rw [hDS, outOf_get _ _ (by omega), show (4 * k + 1) / 4 = k by omega, show (4 * k + 1) % 4 = 1 by omega]
              have d2 : D.getD (4 * k + 2) 0 = S.getD k 0 / 256 % 256 := by rw [hDS, outOf_get _ _ (by omega), show (4 * k + 2) / 4 = k by omega, show (4 * k + 2) % 4 = 2 by omega]
              have d3 : D.getD (4 * k + 3) 0 = S.getD k 0 % 256 := by rw [hDS, outOf_get _ _ (by omega), show (4 * k + 3) / 4 = k by omega, show (4 * k + 3) % 4 = 3 by omega]; simp
              have HDS := Lib.hid (And.intro d0 (And.intro d1 (And.intro d2 d3)))
              clear hDS d0 d1 d2 d3
              generalize S.getD k 0 = x at *
              go_wp2_with fail
              go_roundg (8 - (k + 1))
              case measure => have := HE.out.2.2.2; omega
              case rel =>
                have hs := (((HE.out.1.set (4 * k) (.int .u8 (D.getD (4 * k) 0 : Nat))).set (4 * k + 1) (.int .u8 (D.getD (4 * k + 1) 0 : Nat))).set (4 * k + 2) (.int .u8 (D.getD (4 * k + 2) 0 : Nat))).set (4 * k + 3) (.int .u8 (D.getD (4 * k + 3) 0 : Nat))
                rw [nv_set, nv_set, nv_set, nv_set, orow_set _ _ (by omega), orow_set _ _ (by omega), orow_set _ _ (by omega), orow_set _ _ (by omega)] at hs
                have v0 : (x : Int) / 16777216 = ((D.getD (4 * k) 0 : Nat) : Int) := by rw [HDS.out.1]; omega
                have v1 : (x : Int) / 65536 % 256 = ((D.getD (4 * k + 1) 0 : Nat) : Int) := by rw [HDS.out.2.1]; omega
                have v2 : (x : Int) / 256 % 256 = ((D.getD (4 * k + 2) 0 : Nat) : Int) := by rw [HDS.out.2.2.1]; omega
                have v3 : (x : Int) % 256 = ((D.getD (4 * k + 3) 0 : Nat) : Int) := by rw [HDS.out.2.2.2]; omega
                rw [v0, v1, v2, v3]
                exact ⟨k + 1, rfl, by omega, by go_num, hs, (((HE.out.2.1.setOther ⟨w.heap.size + 1, 4 * k, none⟩ _ (by simp)).setOther ⟨w.heap.size + 1, 4 * k + 1, none⟩ _ (by simp)).setOther ⟨w.heap.size + 1, 4 * k + 2, none⟩ _ (by simp)).setOther ⟨w.heap.size + 1, 4 * k + 3, none⟩ _ (by simp),
                  (((HE.out.2.2.1.setCell (p := ⟨w.heap.size + 1, 4 * k, none⟩) (by simp) _).setCell (p := ⟨w.heap.size + 1, 4 * k + 1, none⟩) (by simp) _).setCell (p := ⟨w.heap.size + 1, 4 * k + 2, none⟩) (by simp) _).setCell (p := ⟨w.heap.size + 1, 4 * k + 3, none⟩) (by simp) _⟩
            · obtain rfl : k = 8 := by omega
              have hD32 : D.length = 32 := by rw [H4.out.2.2.2.2.2.2.1]; simp [outOf]
              have ho32 : orow D (4 * 8) = D := orow_end D hD32
              rw [ho32] at hblk
              have HE := Lib.hid (And.intro hblk (And.intro hkr (And.intro hbel hD32)))
              clear hblk hkr hbel hg ho32 hD32
              go_wp2_with (first
                | (refine wpList_load_row (by rfl) 24 (.tmp 3) (by rfl) (w.heap.size + 1) (by rfl) 24 (nv .u8 D) (0, 0) (.array 32 5) HE.out.1 (by kernel_rfl) rfl (by rw [nv_size, HE.out.2.2.2]; kernel_rfl) ?_)
                | (refine wpList_store_row (by rfl) 24 (.tmp 2) (.tmp 82) (by rfl) w.heap.size (nv .u8 D) (by rfl) (by rfl) 24 (nv .u8 (orow D 0)) HE.out.2.1 (by rw [nv_size, HE.out.2.2.2]; kernel_rfl) (by rw [nv_size, nv_size, orow_length, HE.out.2.2.2]) (nv_one _ _) ?_))
              refine bodyPost_ret (v := .agg (nv .u8 D)) (results_cell_row Try.results13 _ _ w.heap.size 24 (nv .u8 D) (0, 0) (.array 32 5) (by rfl) ?_ (by kernel_rfl) rfl (by rw [nv_size, HE.out.2.2.2]; kernel_rfl)) rfl ⟨rfl, ?_⟩
              · exact isBlk_setRow HE.out.2.1 _
              · exact below_setRow HE.out.2.2.1 _ (Nat.le_refl _) _
    · have ht : (((L : Int) % 64) != 56) = true := by simp; omega
      have hLs : L ≤ 1000 := by omega
      have HO4 := Lib.hid (And.intro hown (And.intro hbel (And.intro hLe (And.intro hj (And.intro hg hje)))))
      clear hown hbel hLe hL hL2 hlast hg hj hje
      go_wp2_with (at_builtin; refine wpList_app rfl (.tmp 28) (.tmp 29) rfl (w.heap.size + 3) (.slice a4 L cap4) (rest ++ 128 :: List.replicate j 0) rfl (HO4.out.1.alloc _) (some ⟨wr.heap.size, 0, none⟩) 1 [0] rfl (by exact one_byte wr 0 (by decide)) (by simp) (by have := HO4.out.2.2.1; simp only [List.length_singleton]; omega) (by simp; omega) ?_; intro v5 w5 ho5 hb5 hg5 hv5; have HR5 := Lib.hid (And.intro ho5 hb5); clear ho5 hb5 hg5 hv5)
      go_roundg (zeros rest.length - (j + 1))
      case measure => have := HO4.out.2.2.2; omega
      case rel =>
        refine ⟨j + 1, rfl, by have := HO4.out.2.2.2; omega, ?_, HO4.out.2.1.trans (((Below.refl _ _).alloc hbw _).trans HR5.out.2)⟩
        have := HR5.out.1
        rw [List.append_assoc, List.cons_append, ← List.replicate_succ'] at this
        exact this
end Go.Proofs.Ytiakkjdkbpbejaa
