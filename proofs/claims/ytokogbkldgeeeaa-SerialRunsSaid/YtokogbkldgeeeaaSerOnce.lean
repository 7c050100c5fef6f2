/-
  serial: the law SerialOnce.
-/
import Derived.Test.YtokogbkldgeeeaaSerWindows
namespace Go.Proofs.Ytokogbkldgeeeaa
set_option linter.unusedVariables false
set_option linter.unusedSimpArgs false
open Go.RowKit

theorem idx_10 (i : Int) : ∃ j : Int, 0 ≤ j ∧ j < 10 ∧ (i.tmod 10 + 10) % 10 = j ∧ -10 ≤ i.tmod 10 ∧ i.tmod 10 ≤ 10 := by
  have h1 : i.tmod 10 < 10 := Int.tmod_lt_of_pos i (by decide)
  have h2 : -10 < i.tmod 10 := Int.lt_tmod_of_pos i (by decide)
  exact ⟨(i.tmod 10 + 10) % 10, by omega, by omega, rfl, by omega, by omega⟩

/-- S lies from t on and below B, counted from 'next'. -/
def Within (S : Int → Bool) (next t B : Int) : Prop := ∀ n, 0 ≤ n → n < 4294967296 → S n = true → t ≤ (n - next) % 4294967296 ∧ (n - next) % 4294967296 < B
/-- Just the numbers below t, and those of S, were taken, each once. -/
def Taken (f : Int → Option Value) (S : Int → Bool) (next t : Int) : Prop := ∀ n, 0 ≤ n → n < 4294967296 → f n = if (n - next) % 4294967296 < t ∨ S n = true then some (.int .i64 1) else none

section
variable {w : World} {tb : Nat} {f : Int → Option Value}
theorem look_taken (h : IntMap w tb .u32 f) (x : Int) : (Instr.lookup 41 (.map (some tb)) (.int .u32 x) false).run Try.prog w = .ok ((f x).getD (.int .i64 0)) w :=
  run_lookup_intMap (P := Try.prog) (t := 41) (kt := 22) (e := 3) Try.underlying41 Try.underlying22 h (z := .int .i64 0) (by kernel_rfl) x
theorem store_taken (h : IntMap w tb .u32 f) (x : Int) (v : Value) : ∃ w', (Instr.mapUpdate 41 (.map (some tb)) (.int .u32 x) v).run Try.prog w = .ok () w' ∧ IntMap w' tb .u32 (fun m => if m = x then some v else f m) ∧ MapTurned w w' tb :=
  run_update_intMap (P := Try.prog) (t := 41) (kt := 22) (e := 3) Try.underlying41 Try.underlying22 h x v
end
theorem IntMap.but2 {w w' : World} {c wb mb : Nat} {k : IntKind} {f : Int → Option Value} (h : IntMap w c k f) (hb : But2 w w' wb mb) (h1 : c ≠ wb) (h2 : c ≠ mb) : IntMap w' c k f :=
  h.of_block (hb.2.2.2.2 c h.lt h1 h2)
theorem IsWin.turned {w w' : World} {wb mb tb : Nat} {nx rm : Int} {S : Int → Bool} (h : IsWin w wb mb nx rm S) (ht : MapTurned w w' tb) (h1 : wb ≠ tb) (h2 : mb ≠ tb) : IsWin w' wb mb nx rm S :=
  h.of_blocks (ht.2.2.2.2 wb h1) (ht.2.2.2.2 mb h2)

/-- What holds at the head of each round. -/
structure OnceInv (w wr : World) (wb mb tb : Nat) (next t B : Int) : Prop where
  ex : ∃ S f, IsWin wr wb mb ((next + t) % 4294967296) 8 S ∧ IntMap wr tb .u32 f ∧ Within S next t B ∧ Taken f S next t
  bel : Below w.heap.size w wr

theorem taken_add {f : Int → Option Value} {S : Int → Bool} {next t : Int} (h : Taken f S next t) {x : Int} (hx0 : 0 ≤ x) (hx1 : x < 4294967296) : Taken (fun m => if m = x then some (.int .i64 1) else f m) (addS S x) next t := by
  intro n h0 h1
  have := h n h0 h1
  show (if n = x then _ else f n) = if _ ∨ (n == x || S n) = true then _ else _
  by_cases hnx : n = x
  · subst hnx; simp
  · rw [if_neg hnx, this]
    simp [hnx]
theorem within_add {S : Int → Bool} {next t B : Int} (h : Within S next t B) {x : Int} (hx : t ≤ (x - next) % 4294967296 ∧ (x - next) % 4294967296 < B) : Within (addS S x) next t B := by
  intro n h0 h1 hs
  have hs' : (n == x || S n) = true := hs
  simp only [Bool.or_eq_true, beq_iff_eq] at hs'
  rcases hs' with rfl | hs'
  · exact hx
  · exact h n h0 h1 hs'
theorem taken_del {f : Int → Option Value} {S : Int → Bool} {next t : Int} (hn : 0 ≤ next ∧ next < 4294967296) (ht : 0 ≤ t ∧ t < 1000000) (h : Taken f S next t) (hs : S ((next + t) % 4294967296) = true) : Taken f (delS S ((next + t) % 4294967296)) next (t + 1) := by
  intro n h0 h1
  rw [h n h0 h1]
  have hdel : delS S ((next + t) % 4294967296) n = (n != (next + t) % 4294967296 && S n) := rfl
  have hiff : ((n - next) % 4294967296 < t ∨ S n = true) ↔ ((n - next) % 4294967296 < t + 1 ∨ delS S ((next + t) % 4294967296) n = true) := by
    rw [hdel]
    by_cases hnx : n = (next + t) % 4294967296
    · subst hnx
      simp only [hs, or_true, true_iff]
      left; omega
    · have h3 : (n != (next + t) % 4294967296) = true := by simpa using hnx
      rw [h3, Bool.true_and]
      have : (n - next) % 4294967296 ≠ t := by omega
      constructor
      · rintro (h | h)
        · left; omega
        · right; exact h
      · rintro (h | h)
        · left; omega
        · right; exact h
  by_cases hP : (n - next) % 4294967296 < t ∨ S n = true
  · rw [if_pos hP, if_pos (hiff.1 hP)]
  · rw [if_neg hP, if_neg (fun hQ => hP (hiff.2 hQ))]
theorem within_del {S : Int → Bool} {next t B : Int} (hn : 0 ≤ next ∧ next < 4294967296) (ht : 0 ≤ t ∧ t < 1000000) (h : Within S next t B) : Within (delS S ((next + t) % 4294967296)) next (t + 1) B := by
  intro n h0 h1 hs
  have hs' : (n != (next + t) % 4294967296 && S n) = true := hs
  simp only [Bool.and_eq_true, bne_iff_ne] at hs'
  have := h n h0 h1 hs'.2
  omega
theorem within_le {S : Int → Bool} {next t B B' : Int} (h : Within S next t B) (hB : B ≤ B') : Within S next t B' := fun n h0 h1 hs => by
  have := h n h0 h1 hs
  omega

set_option maxHeartbeats 3000000 in
set_option maxRecDepth 100000 in
theorem once_walk (next : Int) (a : Option Addr) (zs : List Int) (cap : Nat) (w : World) (hn : 0 ≤ next ∧ next < 4294967296) (hz : IsInts .i64 w a zs) (hm : zs.length ≤ 2 ^ 62) :
    Calls Try.prog 6 #[.int .u32 next, .slice a zs.length cap] w fun e w' => e = .returned (.bool true) ∧ Below w.heap.size w w' := by
  obtain ⟨hn0, hn1⟩ := hn
  have hmm := @run_makeMap Try.prog
  go_enter Try.func6, Try.ntmps6
  go_wp2_with fail
  refine (stands_any _).mono ?_
  rintro e w1 ⟨rfl, hb1⟩
  go_wp2_with fail
  refine (new_any next 8 _ hn0 hn1).mono ?_
  rintro e w2 ⟨rfl, hw, hb2, hsz⟩
  have hB : Below w.heap.size w (w2.alloc (.map #[] 0)) := (hb1.trans (hb2.mono hb1.size)).alloc (by have := hb1.size; omega) _
  have hwb1 : w.heap.size ≤ w1.heap.size + 1 := by have := hb1.size; omega
  have hwb0 : w.heap.size ≤ w1.heap.size := hb1.size
  have hwb2 : w.heap.size ≤ w2.heap.size := by have := hb1.size; omega
  have hne1 : w2.heap.size ≠ w1.heap.size + 1 := by omega
  have hne2 : w2.heap.size ≠ w1.heap.size := by omega
  have hw3 : IsWin (w2.alloc (.map #[] 0)) (w1.heap.size + 1) w1.heap.size ((next + 0) % 4294967296) 8 (fun _ => false) := by
    have h1 : IsWin w2 (w1.heap.size + 1) w1.heap.size ((next + 0) % 4294967296) 8 (fun _ => false) := by rw [show (next + 0) % 4294967296 = next by omega]; exact hw
    exact h1.of_blocks (Below.heap_alloc _ _ _ (by omega)) (Below.heap_alloc _ _ _ (by omega))
  have hInv : OnceInv w (w2.alloc (.map #[] 0)) (w1.heap.size + 1) w1.heap.size w2.heap.size next 0 8 :=
    ⟨⟨_, _, hw3, IntMap.new w2 .u32, (by intro n _ _ h; cases h), (by intro n _ _; rw [if_neg (by simp; omega)])⟩, hB⟩
  clear hw hb1 hb2 hsz hw3 hB
  generalize w1.heap.size + 1 = wb at *
  generalize w1.heap.size = mb at *
  go_wp2
  generalize w2.alloc (.map #[] 0) = w3 at *
  generalize w2.heap.size = tb at *
  go_loopw [6, 19] (fun tu i wr => ∃ (k : Nat) (t : Int), k ≤ zs.length ∧ k ≤ 500 ∧ i = .int .i64 k ∧ tu = .int .u32 t ∧ 0 ≤ t ∧ t ≤ 8 * k ∧ OnceInv w wr wb mb tb next t (t + 8)) (fun _ i _ => zs.length - (intOf i).toNat)
  case atStart => exact ⟨0, 0, by omega, by omega, rfl, rfl, by omega, by omega, hInv⟩
  case round =>
    clear hInv
    obtain ⟨k, t, hk1, hk2, rfl, rfl, ht0, ht1, hinv⟩ := hrel
    by_cases hlt : k < zs.length
    · by_cases h500 : k = 500
      · subst h500
        obtain ⟨b, off, rfl, hbl, hcs⟩ := hz.2.resolve_left (by rintro rfl; simp at hlt)
        have hck : wr.cell? ⟨b, off + 500, none⟩ = some (.int .i64 (zs.getD 500 0)) := (hinv.bel.cell (p := ⟨b, off + 500, none⟩) hbl).trans (hcs 500 hlt)
        generalize zs.getD 500 0 = z at *
        obtain ⟨S, f, hwS, hmf, _, _⟩ := hinv.ex
        have hc0 := hwS.c0
        have hBr := hinv.bel
        clear hmf
        go_wp2_with fail
        refine (resize_nil 3 _).mono ?_
        rintro e w8 ⟨rfl, rfl⟩
        go_wp2_with fail
        refine (come_nil 1 _).mono ?_
        rintro e w8 ⟨rfl, n8, rfl⟩
        go_wp2_with fail
        refine (turn_nil _).mono ?_
        rintro e w8 ⟨rfl, n9, rfl⟩
        go_wp2_with fail
        refine (last_nil _).mono ?_
        rintro e w8 ⟨rfl, rfl⟩
        go_wp2
        go_ret
        exact ⟨rfl, below_drewN hBr _⟩
      · have h5 : ((k : Int) == 500) = false := by simp; omega
        obtain ⟨b, off, rfl, hbl, hcs⟩ := hz.2.resolve_left (by rintro rfl; simp at hlt)
        have hck : wr.cell? ⟨b, off + k, none⟩ = some (.int .i64 (zs.getD k 0)) := (hinv.bel.cell (p := ⟨b, off + k, none⟩) hbl).trans (hcs k hlt)
        generalize zs.getD k 0 = z at *
        obtain ⟨j, hj0, hj1, hjm, hjt1, hjt2⟩ := idx_10 z
        obtain ⟨S, f, hwS, hmf, hws, htk⟩ := hinv.ex
        have hBr := hinv.bel
        obtain ⟨X, hX1, hX2, hX3⟩ : ∃ X, (next + t + j - 1) % 4294967296 = X ∧ ((next + t + j) % 4294967296 - 1) % 4294967296 = X ∧ X = X := ⟨(next + t + j - 1) % 4294967296, rfl, by omega, by omega⟩
        have hx0 : 0 ≤ X := by omega
        have hx1 : X < 4294967296 := by omega
        have hcome := comeB_eq (nx := (next + t) % 4294967296) (rm := 8) (by omega) (by omega) (by omega) (by omega) S X
        have ht9 : t < 4294967296 := by omega
        clear hcs hinv
        cases hc : comeB ((next + t) % 4294967296) 8 S X with
        | true =>
          rw [hc] at hcome
          have hcome' := hcome.symm
          simp only [Bool.and_eq_true, decide_eq_true_eq, Bool.not_eq_true'] at hcome'
          obtain ⟨hdx, hsx⟩ := hcome'
          have hdn : t ≤ (X - next) % 4294967296 ∧ (X - next) % 4294967296 < t + 8 := by omega
          have hfx : f X = none := by
            rw [htk _ hx0 hx1, if_neg]
            rintro (h | h)
            · omega
            · rw [hsx] at h; cases h
          have htk2 := taken_add htk hx0 hx1
          have hws2 := within_add hws hdn
          have HC := Lib.hid hc
          clear hc hcome hdx hsx hdn
          go_wp2_with fail
          refine (come_is hwS X true hx0 hx1 HC.out).mono ?_
          rintro e w5 ⟨rfl, hw5', hb5⟩
          clear hX1 hX2 hX3
          have hw5 : IsWin w5 wb mb ((next + t) % 4294967296) 8 (addS S X) := hw5'
          have hm5 := hmf.but2 hb5 hne1 hne2
          have hB5 := hb5.step hBr hwb1 hwb0
          have hlk := look_taken hm5 X
          rw [hfx] at hlk
          have hlk' : (Instr.lookup 41 (.map (some tb)) (.int .u32 X) false).run Try.prog w5 = .ok (.int .i64 0) w5 := hlk
          obtain ⟨w6, hst, hm6, htr6⟩ := store_taken hm5 X (.int .i64 1)
          have hlk6 := look_taken hm6 X
          rw [if_pos rfl] at hlk6
          have hlk6' : (Instr.lookup 41 (.map (some tb)) (.int .u32 X) false).run Try.prog w6 = .ok (.int .i64 1) w6 := hlk6
          have hw6 := hw5.turned htr6 (Ne.symm hne1) (Ne.symm hne2)
          have hB6 := htr6.below hB5 hwb2
          have hinv5 : OnceInv w w6 wb mb tb next t (t + 8) := ⟨⟨_, _, hw6, hm6, hws2, htk2⟩, hB6⟩
          clear hw5' hlk hlk6 hw5 hm5 hmf hwS hw6 hm6 hB5 hb5 htr6 hBr hB6 hws2 htk2 htk hws
          go_wp2
          obtain ⟨wo, hwo⟩ : ∃ wo : World, wo = wr := ⟨_, rfl⟩
          have ht1' : t + 8 ≤ 8 * ((k : Int) + 1) := by omega
          clear hwo
          go_loopw [6] (fun tu wr => ∃ (t' : Int), t ≤ t' ∧ t' ≤ t + 8 ∧ tu = .int .u32 t' ∧ OnceInv w wr wb mb tb next t' (t + 8)) (fun tu _ => (t + 8 - intOf tu).toNat)
          case atStart => exact ⟨t, by omega, by omega, rfl, hinv5⟩
          case round =>
            clear hinv5
            obtain ⟨t', ht2, ht3, rfl, hinv6⟩ := hrel
            obtain ⟨S, f, hwS, hmf, hws, htk⟩ := hinv6.ex
            have hBr := hinv6.bel
            have hc0 := hwS.c0
            have hnx0 : 0 ≤ (next + t') % 4294967296 := by omega
            have hnx1 : (next + t') % 4294967296 < 4294967296 := by omega
            have ht4 : 0 ≤ t' := by omega
            have ht5 : t' < 1000000 := by omega
            cases hs : S ((next + t') % 4294967296) with
            | true =>
              have hd := hws _ hnx0 hnx1 hs
              have hlt8 : t' < t + 8 := by omega
              have hfx : f ((next + t') % 4294967296) = some (.int .i64 1) := by rw [htk _ hnx0 hnx1, if_pos (.inr hs)]
              have htk2 := taken_del ⟨hn0, hn1⟩ ⟨ht4, ht5⟩ htk hs
              have hws2 := within_del ⟨hn0, hn1⟩ ⟨ht4, ht5⟩ hws
              have he : ((next + t') % 4294967296 + 1) % 4294967296 = (next + (t' + 1)) % 4294967296 := by omega
              have HE := Lib.hid he
              have HS := Lib.hid hs
              clear hd hs he hws htk hinv6
              go_wp2_with fail
              refine (turn_is hwS true HS.out).mono ?_
              rintro e w9 ⟨rfl, hw9', hb9⟩
              have hw9 : IsWin w9 wb mb (((next + t') % 4294967296 + 1) % 4294967296) 8 (delS S ((next + t') % 4294967296)) := hw9'
              have hc9 := hw9.c0
              have hm9 := hmf.but2 hb9 hne1 hne2
              have hlk := look_taken hm9 ((next + t') % 4294967296)
              rw [hfx] at hlk
              have hlk' : (Instr.lookup 41 (.map (some tb)) (.int .u32 ((next + t') % 4294967296)) false).run Try.prog w9 = .ok (.int .i64 1) w9 := hlk
              have hB9 := hb9.step hBr hwb1 hwb0
              clear hw9' hc0 hlk
              go_wp2
              go_roundw
              case rel => exact ⟨t' + 1, by omega, by omega, rfl, ⟨_, _, by rw [← HE.out]; exact hw9, hm9, hws2, htk2⟩, hB9⟩
              case measure => simp [intOf]; omega
            | false =>
              have HS := Lib.hid hs
              have hws2 := within_le hws (show t + 8 ≤ t' + 8 by omega)
              clear hs hws hinv6
              go_wp2_with fail
              refine (turn_is hwS false HS.out).mono ?_
              rintro e w9 ⟨rfl, hw9', hb9⟩
              have hw9 : IsWin w9 wb mb ((next + t') % 4294967296) 8 S := hw9'
              have hm9 := hmf.but2 hb9 hne1 hne2
              have hB9 := hb9.step hBr hwb1 hwb0
              clear hw9'
              go_wp2
              go_roundw
              case rel => exact ⟨k + 1, t', by omega, by omega, by go_num, rfl, by omega, by omega, ⟨_, _, hw9, hm9, hws2, htk⟩, hB9⟩
              case measure => simp [intOf]; omega
        | false =>
          have hws2 := hws
          have HC := Lib.hid hc
          clear hc hcome
          go_wp2_with fail
          refine (come_is hwS X false hx0 hx1 HC.out).mono ?_
          rintro e w6 ⟨rfl, hw5', hb5⟩
          clear hX1 hX2 hX3
          have hw5 : IsWin w6 wb mb ((next + t) % 4294967296) 8 S := hw5'
          have hm5 := hmf.but2 hb5 hne1 hne2
          have hB5 := hb5.step hBr hwb1 hwb0
          have hinv5 : OnceInv w w6 wb mb tb next t (t + 8) := ⟨⟨_, _, hw5, hm5, hws2, htk⟩, hB5⟩
          clear hw5' hw5 hm5 hmf hwS hB5 hb5 hBr hws2 htk hws
          go_wp2
          obtain ⟨wo, hwo⟩ : ∃ wo : World, wo = wr := ⟨_, rfl⟩
          have ht1' : t + 8 ≤ 8 * ((k : Int) + 1) := by omega
          clear hwo
          go_loopw [6] (fun tu wr => ∃ (t' : Int), t ≤ t' ∧ t' ≤ t + 8 ∧ tu = .int .u32 t' ∧ OnceInv w wr wb mb tb next t' (t + 8)) (fun tu _ => (t + 8 - intOf tu).toNat)
          case atStart => exact ⟨t, by omega, by omega, rfl, hinv5⟩
          case round =>
            clear hinv5
            obtain ⟨t', ht2, ht3, rfl, hinv6⟩ := hrel
            obtain ⟨S, f, hwS, hmf, hws, htk⟩ := hinv6.ex
            have hBr := hinv6.bel
            have hc0 := hwS.c0
            have hnx0 : 0 ≤ (next + t') % 4294967296 := by omega
            have hnx1 : (next + t') % 4294967296 < 4294967296 := by omega
            have ht4 : 0 ≤ t' := by omega
            have ht5 : t' < 1000000 := by omega
            cases hs : S ((next + t') % 4294967296) with
            | true =>
              have hd := hws _ hnx0 hnx1 hs
              have hlt8 : t' < t + 8 := by omega
              have hfx : f ((next + t') % 4294967296) = some (.int .i64 1) := by rw [htk _ hnx0 hnx1, if_pos (.inr hs)]
              have htk2 := taken_del ⟨hn0, hn1⟩ ⟨ht4, ht5⟩ htk hs
              have hws2 := within_del ⟨hn0, hn1⟩ ⟨ht4, ht5⟩ hws
              have he : ((next + t') % 4294967296 + 1) % 4294967296 = (next + (t' + 1)) % 4294967296 := by omega
              have HE := Lib.hid he
              have HS := Lib.hid hs
              clear hd hs he hws htk hinv6
              go_wp2_with fail
              refine (turn_is hwS true HS.out).mono ?_
              rintro e w9 ⟨rfl, hw9', hb9⟩
              have hw9 : IsWin w9 wb mb (((next + t') % 4294967296 + 1) % 4294967296) 8 (delS S ((next + t') % 4294967296)) := hw9'
              have hc9 := hw9.c0
              have hm9 := hmf.but2 hb9 hne1 hne2
              have hlk := look_taken hm9 ((next + t') % 4294967296)
              rw [hfx] at hlk
              have hlk' : (Instr.lookup 41 (.map (some tb)) (.int .u32 ((next + t') % 4294967296)) false).run Try.prog w9 = .ok (.int .i64 1) w9 := hlk
              have hB9 := hb9.step hBr hwb1 hwb0
              clear hw9' hc0 hlk
              go_wp2
              go_roundw
              case rel => exact ⟨t' + 1, by omega, by omega, rfl, ⟨_, _, by rw [← HE.out]; exact hw9, hm9, hws2, htk2⟩, hB9⟩
              case measure => simp [intOf]; omega
            | false =>
              have HS := Lib.hid hs
              have hws2 := within_le hws (show t + 8 ≤ t' + 8 by omega)
              clear hs hws hinv6
              go_wp2_with fail
              refine (turn_is hwS false HS.out).mono ?_
              rintro e w9 ⟨rfl, hw9', hb9⟩
              have hw9 : IsWin w9 wb mb ((next + t') % 4294967296) 8 S := hw9'
              have hm9 := hmf.but2 hb9 hne1 hne2
              have hB9 := hb9.step hBr hwb1 hwb0
              clear hw9'
              go_wp2
              go_roundw
              case rel => exact ⟨k + 1, t', by omega, by omega, by go_num, rfl, by omega, by omega, ⟨_, _, hw9, hm9, hws2, htk⟩, hB9⟩
              case measure => simp [intOf]; omega
    · obtain rfl : k = zs.length := by omega
      obtain ⟨S, f, hwS, hmf, _, _⟩ := hinv.ex
      have hc0 := hwS.c0
      have hBr := hinv.bel
      clear hmf
      go_wp2_with fail
      refine (resize_nil 3 _).mono ?_
      rintro e w8 ⟨rfl, rfl⟩
      go_wp2_with fail
      refine (come_nil 1 _).mono ?_
      rintro e w8 ⟨rfl, n8, rfl⟩
      go_wp2_with fail
      refine (turn_nil _).mono ?_
      rintro e w8 ⟨rfl, n9, rfl⟩
      go_wp2_with fail
      refine (last_nil _).mono ?_
      rintro e w8 ⟨rfl, rfl⟩
      go_wp2
      go_ret
      exact ⟨rfl, below_drewN hBr _⟩

theorem serialOnce_law (v0 v1 : Value) (D0 D1 : D) (W : World) (r0 : RdV Try.prog W 22 v0 D0) (r1 : RdV Try.prog W 40 v1 D1) :
    Calls Try.prog 6 #[v0, v1] W fun e w' => e = .returned (.bool true) ∧ Below W.heap.size W w' := by
  obtain ⟨n, rfl, _, hn⟩ := r0.int Try.underlying22
  obtain ⟨a, len, cap, zs, rfl, _, hzl, hlc, hcm, hrc, hnn, hz⟩ := r1.ints Try.underlying40 Try.underlying3 (by kernel_rfl)
  subst hzl
  rw [show Try.prog.bytesOf 3 = 8 by kernel_rfl] at hrc
  simp only [reachBytes] at hrc
  exact once_walk n a zs cap W (u32_bd hn) hz (by omega)

end Go.Proofs.Ytokogbkldgeeeaa
