/-
  sha: ShaParts.
-/
import Derived.Test.YtiakkjdkbpbejaaShaLaws
namespace Go.Proofs.Ytiakkjdkbpbejaa
set_option linter.unusedVariables false
set_option linter.unusedSimpArgs false
open Go.RowKit

theorem row_bytes {w : World} {cs : List Value} {d : D} (h : Rd Try.prog w 22 cs d) : ∃ a len cap m, cs = [.slice a len cap] ∧ Hid (len = m.length) ∧ len ≤ cap ∧ cap ≤ 140737488351232 ∧ (a = none → cap = 0) ∧ IsBytes w a m ∧ (∀ x, a = some x → m ≠ [] → x.block < w.heap.size) := by
  obtain ⟨a, len, cap, zs, rfl, -, h1, h2, h3, h4, h5, h6⟩ := h.ints (k := .u8) (e := 5) (by kernel_rfl) (by kernel_rfl) (by kernel_rfl)
  obtain ⟨l, hl, hb, hx⟩ := h6.bytes
  have hbo : Try.prog.bytesOf 5 = 1 := by kernel_rfl
  rw [hbo] at h4
  unfold reachBytes at h4
  exact ⟨a, len, cap, l, rfl, Lib.hid (by omega), h2, by omega, h5, hb, hx⟩

/-- A hash and a row of bytes that lie apart. -/
structure Apart (w : World) (B hb : Nat) (v s : Value) (l : List Nat) : Prop where
  sum : IsSum w B hb v l
  own : Own w B s l
  n1 : s.ownBlock ≠ some hb
  n2 : ∀ k, v.ownBlock = some k → s.ownBlock ≠ some k
theorem Apart.below {w w' : World} {B hb : Nat} {v s : Value} {l : List Nat} (h : Apart w B hb v s l) (hb' : Below w.heap.size w w') : Apart w' B hb v s l := ⟨h.sum.below hb', h.own.below hb', h.n1, h.n2⟩

set_option maxRecDepth 100000 in
set_option maxHeartbeats 4000000 in
theorem parts_walk (v0 : Value) (D0 : D) (W : World) (r0 : RdV Try.prog W 27 v0 D0) :
    Calls Try.prog 4 #[v0] W fun e w' => e = .returned (.bool true) ∧ Below W.heap.size W w' := by
  have hce : Try.prog.cellsOf 22 = 1 := by kernel_rfl
  obtain ⟨a, len, cap, rows, rfl, hlc, -, hcap, hc0, hrows⟩ := r0.rows (e := 22) (by kernel_rfl) (by rw [hce]; decide)
  have hbo : Try.prog.bytesOf 22 = 24 := by kernel_rfl
  rw [hbo] at hcap
  unfold reachBytes at hcap
  have HR := Lib.hid hrows
  have hlen : len ≤ 140737488355000 := by omega
  clear hrows r0 hbo hcap
  go_enter Try.func4, Try.ntmps4
  go_wp2_with fail
  refine (stands_any _).mono ?_
  rintro e w1 ⟨rfl, hb1⟩
  have HB1 := Lib.hid hb1
  clear hb1
  go_wp2_with fail
  refine (newS _).mono ?_
  rintro e w2 ⟨rfl, hb2, hs2, hn2⟩
  have HB2 : Hid (Below W.heap.size W w2) := HB1.out.trans (hb2.mono HB1.out.size)
  have hww : W.heap.size ≤ w1.heap.size := HB1.out.size
  have HN2 : Hid (Apart w2 W.heap.size w1.heap.size (.slice none 0 0) (.slice none 0 0) []) := by
    obtain ⟨q1, q2, q3, q4, q5⟩ := hn2
    exact ⟨⟨q1, q2.mono hww, q3, hww, q5⟩, Own.nil _ _, by simp [Value.ownBlock], by simp [Value.ownBlock]⟩
  clear hb2 hs2 hn2
  generalize w1.heap.size = hb at *
  go_wp2
  go_loopw [4, 12] (fun s i wr => ∃ (k : Nat) (l : List Nat) (v : Value), k ≤ len ∧ i = .int .i64 k ∧ Apart wr W.heap.size hb v s l ∧ l.length ≤ 4000 ∧ Below W.heap.size W wr) (fun _ i _ => len - (intOf i).toNat)
  case atStart => exact ⟨0, [], _, by omega, rfl, HN2.out, by simp, HB2.out⟩
  case round =>
    clear HN2 HB2
    obtain ⟨k, l, v, hk, rfl, hap, hl4, hbel⟩ := hrel
    obtain ⟨sa, scap, rfl, -, -, -, -⟩ := hap.own.form
    have hcz := hap.own.capz
    by_cases hlt : k < len
    · obtain ⟨d, hd⟩ := HR.out.rd k hlt
      obtain ⟨A, n, c, m, hrow, HL, hnc, hcc, hA0, hm, hmx⟩ := row_bytes hd
      obtain ⟨b, off, rfl, hbw, hcs⟩ := HR.out.at_.resolve_left (by omega)
      have hc1 := hcs k hlt 0 (by rw [hce]; decide)
      have hbw2 := hbw (by rw [hce]; decide)
      rw [hce, hrow] at hc1
      have hc2 : wr.cell? ⟨b, off + k, none⟩ = some (.slice A n c) := by
        have := (hbel.cell (p := ⟨b, off + (k * 1 + 0), none⟩) hbw2).trans hc1
        simpa using this
      have hm2 := hm.of_below hbel
      have hm0 := Lib.hid hm
      have HE := Lib.hid (And.intro hap (And.intro hbel (And.intro hm2 (And.intro hmx hcz))))
      clear hrow hd hm hc1 hcs hap hbel hm2 hmx hbw hcz
      obtain ⟨ll, hll⟩ : ∃ ll, ll = l.length := ⟨_, rfl⟩
      rw [← hll] at hl4 ⊢
      have HLL := Lib.hid hll
      rw [← hll] at HE
      clear hll
      by_cases hk50 : k = 50
      · have ht : ((k : Int) == 50) = true := by simp; omega
        clear hk50
        go_wp2
        go_ret
        exact ⟨rfl, HE.out.2.1⟩
      · have ht : ((k : Int) == 50) = false := by simp; omega
        clear hk50
        by_cases hbig : ll + n ≤ 4000
        · go_wp2_with fail
          have hbs : W.heap.size ≤ wr.heap.size := HE.out.2.1.size
          refine (writeS HE.out.1.sum HL.out HE.out.2.2.1 hA0 (by omega) hbs (fun x hx hne => by have := HE.out.2.2.2.1 x hx hne; have := HE.out.1.sum.hfb; omega)).mono ?_
          rintro e w3 ⟨rfl, v3, hi3, hb3, hv3⟩
          have ho3 := hb3.own HE.out.1.own (fun j hj hS => by
            rcases hS with h | h
            · exact HE.out.1.n1 (by rw [hj, h])
            · exact HE.out.1.n2 j h hj)
          have hvs : ∀ j, v3.ownBlock = some j → (Value.slice sa ll scap).ownBlock ≠ some j := by
            intro j hj hs
            rcases hv3 j hj with h | h
            · exact HE.out.1.n2 j h hs
            · have := HE.out.1.own.lt j hs; omega
          have hB3 : Below W.heap.size W w3 := HE.out.2.1.trans (hb3.below (B := W.heap.size) hbs (by
            intro j hj
            rcases hj with h | h
            · rw [h]; exact HE.out.1.sum.hfb
            · exact HE.out.1.sum.own.base_le j h))
          have hm3 := hm0.out.of_below hB3
          have H3 := Lib.hid (And.intro hi3 (And.intro ho3 (And.intro hvs (And.intro hB3 hm3))))
          have hbs3 : W.heap.size ≤ w3.heap.size := hB3.size
          clear hi3 hb3 hv3 ho3 hvs hB3 hm3
          go_wp2_with (at_builtin; refine wpList_app' rfl (.tmp 30) (.tmp 31) rfl W.heap.size (.slice sa ll scap) l rfl H3.out.2.1 A n c m rfl HL.out H3.out.2.2.2.2 hA0 (by have := HL.out; have := HLL.out; omega) hbs3 ?_; intro v4 w4 ho4 hb4 hg4 hv4; obtain ⟨a4, len4, cap4, rfl, hlen4⟩ := ho4.slice; have H4 := Lib.hid (And.intro ho4 (And.intro hb4 (And.intro hg4 hv4))); clear ho4 hb4 hg4 hv4)
          have hi4 : IsSum w4 W.heap.size hb v3 (l ++ m) := H3.out.1.but (S := fun j => (Value.slice sa ll scap).ownBlock = some j) ⟨H4.out.2.2.1.os, H4.out.2.2.1.tape, H4.out.2.2.1.output, H4.out.2.2.1.size, fun j hj hn => H4.out.2.2.1.block j hj (fun e => hn e.symm)⟩ HE.out.1.n1 (fun j hj e => H3.out.2.2.1 j hj e)
          have hap4 : Apart w4 W.heap.size hb v3 (.slice a4 len4 cap4) (l ++ m) := by
            refine ⟨hi4, H4.out.1, ?_, ?_⟩
            · intro e
              rcases H4.out.2.2.2 with h | h
              · exact HE.out.1.n1 (by rw [← h]; exact e)
              · rw [h] at e; injection e with e; have := H3.out.1.blk.lt; omega
            · intro j hj e
              rcases H4.out.2.2.2 with h | h
              · exact H3.out.2.2.1 j hj (by rw [← h]; exact e)
              · rw [h] at e; injection e with e; have := H3.out.1.own.lt j hj; omega
          have hB4 : Below W.heap.size W w4 := H3.out.2.2.2.1.trans H4.out.2.1
          have hL5 : Hid (len4 = (l ++ m).length) := hlen4
          have hlm : (l ++ m).length ≤ 4000 := by rw [List.length_append, ← HL.out, ← HLL.out]; exact hbig
          have hcz4 := H4.out.1.capz
          have h4k : len4 ≤ 4000 := by rw [hL5.out]; exact hlm
          have H5 := Lib.hid (And.intro hap4 (And.intro hB4 (And.intro hlm hcz4)))
          have hq := eq_same (digest (l ++ m)) (digest_length _)
          have hby : Hid (∀ w, Below w4.heap.size w4 w → IsBytes w a4 (l ++ m)) := fun w hw => by
            obtain ⟨a5, cap5, he5, hb5, -⟩ := (hap4.own.below hw).form
            injection he5 with he5 _ _
            rw [he5]; exact hb5
          clear hi4 hap4 hB4 hlm hcz4 H4 H3
          generalize l ++ m = l2 at *
          go_wp2_with fail
          refine (sumS H5.out.1.sum H5.out.2.1.size).mono ?_
          rintro e w5 ⟨rfl, hb5⟩
          have H6 := Lib.hid hb5
          clear hb5
          go_wp2_with fail
          refine (sumR_any _ a4 len4 cap4 l2 hL5 (hby.out _ H6.out) H5.out.2.2.2 (by omega)).mono ?_
          rintro e w6 ⟨rfl, hb6⟩
          have H7 := Lib.hid (H6.out.trans (hb6.mono H6.out.size))
          clear hb6
          go_wp2_with fail
          refine (sumS (H5.out.1.sum.below H7.out) (by have := H5.out.2.1.size; have := H7.out.size; omega)).mono ?_
          rintro e w7 ⟨rfl, hb7⟩
          have H8 := Lib.hid (H7.out.trans (hb7.mono H7.out.size))
          clear hb7
          go_wp2_with fail
          refine (sum_any _ a4 len4 cap4 l2 hL5 (hby.out _ H8.out) H5.out.2.2.2 (by omega)).mono ?_
          rintro e w8 ⟨rfl, hb8⟩
          have H9 := Lib.hid (H8.out.trans (hb8.mono H8.out.size))
          clear hb8
          go_wp2
          go_roundw
          case rel => exact ⟨k + 1, l2, v3, by omega, by go_num, H5.out.1.below H9.out, H5.out.2.2.1, H5.out.2.1.trans (H9.out.mono H5.out.2.1.size)⟩
          case measure => simp [intOf]; omega
        · go_wp2
          go_ret
          exact ⟨rfl, HE.out.2.1⟩
    · clear hap hcz
      have HE := Lib.hid hbel
      clear hbel
      go_wp2
      go_ret
      exact ⟨rfl, HE.out⟩
end Go.Proofs.Ytiakkjdkbpbejaa
