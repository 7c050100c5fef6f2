/-
  sha: a hash, told by the bytes that were written to it; Sum of bytes; a hash that is none.
-/
import Derived.Test.YtiakkjdkbpbejaaShaSum
namespace Go.Proofs.Ytiakkjdkbpbejaa
set_option linter.unusedVariables false
set_option linter.unusedSimpArgs false
open Go.RowKit

theorem feed_mod (h l : List Nat) : (feed h l).2.length = l.length % 64 := by
  induction hn : l.length using Nat.strongRecOn generalizing h l with
  | _ n ih =>
    by_cases hl : 64 ≤ l.length
    · rw [feed_long h l hl, ih (l.drop 64).length (by simp; omega) _ _ rfl, List.length_drop]
      omega
    · rw [feed_short h l (by omega)]
      show l.length = n % 64
      omega
theorem zeros_mod (n m : Nat) (h : n % 64 = m % 64) : zeros n = zeros m := by unfold zeros; rw [h]
theorem tail_pad (l : List Nat) : tailOf (feed h8 l).2.length (l.length % 18446744073709551616 * 8 % 18446744073709551616) = pad l.length := by
  unfold tailOf pad
  rw [zeros_mod _ l.length (by rw [feed_mod]; omega), show l.length % 18446744073709551616 * 8 % 18446744073709551616 = l.length * 8 % 18446744073709551616 by omega]
theorem digest_feed (l : List Nat) : digest l = outOf (feed (feed h8 l).1 ((feed h8 l).2 ++ tailOf (feed h8 l).2.length (l.length % 18446744073709551616 * 8 % 18446744073709551616))).1 := by
  rw [tail_pad, ← feed_append]; rfl

/-- A hash to which the bytes l were written. -/
def IsSum (w : World) (base hb : Nat) (v : Value) (l : List Nat) : Prop := IsHash w base hb v (feed h8 l).1 (feed h8 l).2 (l.length % 18446744073709551616)
theorem IsSum.but {w w' : World} {base hb : Nat} {v : Value} {l : List Nat} {S : Nat → Prop} (hi : IsSum w base hb v l) (hb' : But S w w') (h1 : ¬ S hb) (h2 : ∀ k, v.ownBlock = some k → ¬ S k) : IsSum w' base hb v l := IsHash.but hi hb' h1 h2
theorem IsSum.below {w w' : World} {base hb : Nat} {v : Value} {l : List Nat} (hi : IsSum w base hb v l) (h : Below w.heap.size w w') : IsSum w' base hb v l :=
  hi.but (S := fun _ => False) ⟨h.os, h.tape, h.output, h.size, fun k hk _ => h.block k hk⟩ (fun e => e) (fun _ _ e => e)
theorem isSum_new (w : World) : IsSum (w.alloc (.cells (hashC h8 (.slice none 0 0) 0) 42)) w.heap.size w.heap.size (.slice none 0 0) [] := by
  have e : feed h8 [] = (h8, []) := feed_short _ _ (by decide)
  unfold IsSum
  rw [e]
  exact ⟨IsBlk.new w _ _, Own.nil _ _, by simp [Value.ownBlock], Nat.le_refl _, H8.start⟩
theorem newS (w : World) : Calls Try.prog 11 #[] w fun e w' => e = .returned (.pointer (some ⟨w.heap.size, 0, none⟩)) ∧ Below w.heap.size w w' ∧ w.heap.size < w'.heap.size ∧ IsSum w' w.heap.size w.heap.size (.slice none 0 0) [] :=
  (new_any w).mono fun _ _ ⟨he, hw⟩ => ⟨he, by subst hw; exact ⟨(Below.refl _ _).alloc (Nat.le_refl _) _, by simp, isSum_new w⟩⟩
theorem writeS {w : World} {base hb : Nat} {v : Value} {l : List Nat} {A : Option Addr} {k c : Nat} {m : List Nat} (hi : IsSum w base hb v l) (hL : k = m.length) (hm : IsBytes w A m) (hc0 : A = none → c = 0) (hlen : k ≤ 140737488355000) (hbase : base ≤ w.heap.size)
    (hsep : ∀ x, A = some x → m ≠ [] → x.block ≠ hb) :
    Calls Try.prog 12 #[.pointer (some ⟨hb, 0, none⟩), .slice A k c] w fun e w' => e = .returned (.tuple #[]) ∧ ∃ v', IsSum w' base hb v' (l ++ m) ∧ But (HashS hb v) w w' ∧ (∀ j, v'.ownBlock = some j → v.ownBlock = some j ∨ w.heap.size ≤ j) := by
  refine (write_any w base hb v _ _ _ A k c m hi (Lib.hid hL) hm hc0 (by have := feed_rest h8 l; omega) (Nat.mod_lt _ (by decide)) hbase hsep).mono ?_
  rintro e w' ⟨he, v', h1, h2, h3⟩
  refine ⟨he, v', ?_, h2, h3⟩
  rw [← feed_append] at h1
  unfold IsSum
  have e2 : (l ++ m).length % 18446744073709551616 = (l.length % 18446744073709551616 + k) % 18446744073709551616 := by rw [List.length_append, hL]; omega
  rw [e2]
  exact h1
theorem sumS {w : World} {base hb : Nat} {v : Value} {l : List Nat} (hi : IsSum w base hb v l) (hbase : base ≤ w.heap.size) :
    Calls Try.prog 13 #[.pointer (some ⟨hb, 0, none⟩)] w fun e w' => e = .returned (.agg (nv .u8 (digest l))) ∧ Below w.heap.size w w' :=
  sumH_any w base hb v _ _ _ hi (feed_rest _ _) (Nat.mod_lt _ (by decide)) hbase _ (digest_feed l)

theorem writeNone (w : World) (x : Value) : Calls Try.prog 12 #[.pointer none, x] w fun e w' => e = .returned (.tuple #[]) ∧ w = w' := by
  go_enter Try.func12, Try.ntmps12
  go_wp2
  refine bodyPost_ret (results_none rfl _ _ _) rfl ?_
  exact ⟨rfl, rfl⟩

theorem nv_zeros (k : IntKind) (n : Nat) : (nv k (List.replicate n 0)).size = n := by rw [nv_size, List.length_replicate]
set_option maxRecDepth 100000 in
set_option maxHeartbeats 2000000 in
theorem sumNone (w : World) (D : List Nat) (hD : D = List.replicate 32 0) : Calls Try.prog 13 #[.pointer none] w fun e w' => e = .returned (.agg (nv .u8 D)) ∧ Below w.heap.size w w' := by
  have hz : ∀ w : World, (zeroValue 24).run Try.prog w = .ok (.agg (nv .u8 D)) w := fun w => by rw [hD]; exact zero_32' w
  have hl : (nv .u8 D).size = 32 := by rw [hD]; exact nv_zeros _ _
  have HL := Lib.hid hl
  clear hl hD
  go_enter Try.func13, Try.ntmps13
  have kO : IsBlk ((w.alloc (.cells (nv .u8 D) 24)).alloc (.cells (nv .u8 D) 24)) (w.heap.size + 1) (nv .u8 D) 24 := by
    have := IsBlk.new (w.alloc (.cells (nv .u8 D) 24)) (nv .u8 D) 24
    rwa [World.size_alloc] at this
  have kR : IsBlk ((w.alloc (.cells (nv .u8 D) 24)).alloc (.cells (nv .u8 D) 24)) w.heap.size (nv .u8 D) 24 := (IsBlk.new w _ _).alloc _
  have HE := Lib.hid (And.intro kO kR)
  clear kO kR
  go_wp2_with (first
    | (refine wpList_load_row (by rfl) 24 (.tmp 3) (by rfl) (w.heap.size + 1) (by rfl) 24 (nv .u8 D) (0, 0) (.array 32 5) HE.out.1 (by kernel_rfl) rfl (by rw [HL.out]; kernel_rfl) ?_)
    | (refine wpList_store_row (by rfl) 24 (.tmp 2) (.tmp 11) (by rfl) w.heap.size (nv .u8 D) (by rfl) (by rfl) 24 (nv .u8 D) HE.out.2 (by rw [HL.out]; kernel_rfl) rfl (nv_one _ _) ?_))
  refine bodyPost_ret (v := .agg (nv .u8 D)) (results_cell_row Try.results13 _ _ w.heap.size 24 (nv .u8 D) (0, 0) (.array 32 5) (by rfl) ?_ (by kernel_rfl) rfl (by rw [HL.out]; kernel_rfl)) rfl ⟨rfl, ?_⟩
  · exact isBlk_setRow HE.out.2 _
  · exact below_setRow (((Below.refl _ _).alloc (Nat.le_refl _) _).alloc (by simp) _) _ (Nat.le_refl _) _

set_option maxRecDepth 100000 in
set_option maxHeartbeats 2000000 in
theorem sum_any (w : World) (A : Option Addr) (k c : Nat) (m : List Nat) (HL : Hid (k = m.length)) (hm : IsBytes w A m) (hc0 : A = none → c = 0) (hlen : k ≤ 140737488355000) :
    Calls Try.prog 9 #[.slice A k c] w fun e w' => e = .returned (.agg (nv .u8 (digest m))) ∧ Below w.heap.size w w' := by
  have hz := zero_32 (digest m)
  have hmb : ∀ x, A = some x → m ≠ [] → x.block < w.heap.size := by
    intro x hx hne
    obtain ⟨b, off, he, hc⟩ := hm.2.resolve_left hne
    rw [hx] at he; cases he
    exact cell?_some_lt (hc 0 (List.length_pos_iff.2 hne))
  have HB := Lib.hid hmb
  clear hmb
  go_enter Try.func9, Try.ntmps9
  have kR : IsBlk (w.alloc (.cells (nv .u8 (orow (digest m) 0)) 24)) w.heap.size (nv .u8 (orow (digest m) 0)) 24 := IsBlk.new w _ _
  have kB : Below w.heap.size w (w.alloc (.cells (nv .u8 (orow (digest m) 0)) 24)) := (Below.refl _ _).alloc (Nat.le_refl _) _
  have HE := Lib.hid (And.intro kR kB)
  clear kR kB
  go_wp2_with fail
  refine (newS _).mono ?_
  rintro e w1 ⟨rfl, hb1, hs1, hn1⟩
  rw [World.size_alloc] at hb1 hs1 hn1
  have hB1 := HE.out.2.trans (hb1.mono (by omega))
  have kR1 := HE.out.1.below hb1 (by omega)
  have hm1 := hm.of_below hB1
  have H1 := Lib.hid (And.intro hB1 (And.intro kR1 hn1))
  clear hB1 kR1 hb1 hn1 HE
  go_wp2_with fail
  refine (writeS H1.out.2.2 HL.out hm1 hc0 hlen (by omega) (fun x hx hne => by have := HB.out x hx hne; omega)).mono ?_
  rintro e w2 ⟨rfl, v2, hi2, hb2, -⟩
  have kR2 := hb2.blk H1.out.2.1 (not_hashS (by omega))
  have hB2 : Below w.heap.size w w2 := H1.out.1.trans (hb2.below (B := w.heap.size) H1.out.1.size (by intro k hk; have := hashS_is hk; omega))
  have hs2 := hb2.size
  have H2 := Lib.hid (And.intro hB2 (And.intro kR2 hi2))
  clear hB2 kR2 hb2 hi2 H1 hm1
  rw [List.nil_append] at H2
  go_wp2_with fail
  refine (sumS H2.out.2.2 (by omega)).mono ?_
  rintro e w3 ⟨rfl, hb3⟩
  have kR3 := H2.out.2.1.below hb3 H2.out.2.1.lt
  have hB3 := H2.out.1.trans (hb3.mono H2.out.1.size)
  have H3 := Lib.hid (And.intro hB3 kR3)
  clear hB3 kR3 hb3 H2
  go_wp2_with (refine wpList_store_row (by rfl) 24 (.tmp 2) (.tmp 9) (by rfl) w.heap.size (nv .u8 (digest m)) (by rfl) (by rfl) 24 (nv .u8 (orow (digest m) 0)) H3.out.2 (by rw [nv_size, digest_length]; kernel_rfl) (by rw [nv_size, nv_size, orow_length, digest_length]) (nv_one _ _) ?_)
  refine bodyPost_ret (v := .agg (nv .u8 (digest m))) (results_cell_row Try.results9 _ _ w.heap.size 24 (nv .u8 (digest m)) (0, 0) (.array 32 5) (by rfl) ?_ (by kernel_rfl) rfl (by rw [nv_size, digest_length]; kernel_rfl)) rfl ⟨rfl, ?_⟩
  · exact isBlk_setRow H3.out.2 _
  · exact below_setRow H3.out.1 _ (Nat.le_refl _) _
end Go.Proofs.Ytiakkjdkbpbejaa
