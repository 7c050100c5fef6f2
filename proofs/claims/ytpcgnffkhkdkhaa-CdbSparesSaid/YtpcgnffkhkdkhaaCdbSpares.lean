/-
  cdb: the law CdbSpares.
-/
import Derived.Test.YtpcgnffkhkdkhaaCdbForms
import Derived.Test.YtpcgnffkhkdkhaaCdbMaps
import Derived.Carry
import Derived.Carry
namespace Go.Proofs.Ytpcgnffkhkdkhaa
set_option linter.unusedVariables false
set_option linter.unusedSimpArgs false
open Go.RowKit
attribute [local go_sem ↓] Go.wp_at_zero Go.wp_at_succ

/-- c, with b's bytes at the places l. -/
def mixP (b : List Nat) (c : List Nat) (l : List Nat) : List Nat := l.foldl (fun c i => c.set i (b.getD i 0)) c
theorem mixP_length (b : List Nat) : ∀ (l c : List Nat), (mixP b c l).length = c.length
  | [], _ => rfl
  | i :: l, c => by
    have := mixP_length b l (c.set i (b.getD i 0))
    rw [List.length_set] at this
    exact this
theorem mixP_snoc (b c : List Nat) (l : List Nat) (k : Nat) (h : k < l.length) : mixP b c (l.take (k + 1)) = (mixP b c (l.take k)).set (l.getD k 0) (b.getD (l.getD k 0) 0) := by
  unfold mixP
  rw [List.take_succ_eq_append_getElem h, List.foldl_append]
  simp [List.getD, List.getElem?_eq_getElem h]
theorem mixP_keeps (b : List Nat) (j : Nat) : ∀ (l c : List Nat), c.getD j 0 = b.getD j 0 → (mixP b c l).getD j 0 = b.getD j 0
  | [], _, h => h
  | i :: l, c, h => by
    refine mixP_keeps b j l _ ?_
    by_cases e : i = j
    · subst e
      by_cases hi : i < c.length
      · simp [List.getD, hi]
      · show (c.set i (b.getD i 0)).getD i 0 = _
        rw [List.set_eq_of_length_le (by omega)]; exact h
    · rw [← h]; simp [List.getD, e]
theorem mixP_at (b : List Nat) (j : Nat) : ∀ (l c : List Nat), j ∈ l → j < c.length → (mixP b c l).getD j 0 = b.getD j 0
  | i :: l, c, h, hc => by
    rcases List.mem_cons.1 h with rfl | h
    · exact mixP_keeps b j l _ (by simp [List.getD, hc])
    · exact mixP_at b j l _ h (by rw [List.length_set]; exact hc)
theorem mixP_lt (b : List Nat) (hb : ∀ c ∈ b, c < 256) : ∀ (l c : List Nat), (∀ x ∈ c, x < 256) → ∀ x ∈ mixP b c l, x < 256
  | [], _, h => h
  | i :: l, c, h => by
    refine mixP_lt b hb l _ ?_
    intro x hx
    rcases List.mem_or_eq_of_mem_set hx with hx | rfl
    · exact h x hx
    · by_cases hi : i < b.length
      · exact hb _ (by simp [List.getD, hi])
      · simp [List.getD, List.getElem?_eq_none (show b.length ≤ i by omega)]
theorem named_lt {op : Nat} {l : List Nat} (h : namedP op = some l) : ∀ i ∈ l, i < 16 := by
  unfold namedP at h
  (repeat' split at h) <;> first | (cases h; done) | (injection h with h; subst h; simp)
theorem named_head {op : Nat} {l : List Nat} (h : namedP op = some l) : 0 ∈ l := by
  unfold namedP at h
  (repeat' split at h) <;> first | (cases h; done) | (injection h with h; subst h; simp)

/-- The map as it stands behind the literal. -/
theorem named_looks (S1 S2 S3 S4 S5 S6 S7 S8 : Nat) (op : Nat) : ∀ r, looks [(66, S8, nv .i64 [0, 7, 8]), (95, S7, nv .i64 [0, 1, 2, 5, 6, 7, 8]), (94, S6, nv .i64 [0, 1, 7, 8]), (160, S5, nv .i64 [0, 2, 6, 7, 8, 9]), (158, S4, nv .i64 [0, 1, 10, 11, 12, 13]), (37, S3, nv .i64 [0]), (18, S2, nv .i64 [0, 1, 2, 3, 4]), (0, S1, nv .i64 [0])] (op : Int) = r →
    (r = none ∧ namedP op = none) ∨ (∃ x ∈ [(66, S8, nv .i64 [0, 7, 8]), (95, S7, nv .i64 [0, 1, 2, 5, 6, 7, 8]), (94, S6, nv .i64 [0, 1, 7, 8]), (160, S5, nv .i64 [0, 2, 6, 7, 8, 9]), (158, S4, nv .i64 [0, 1, 10, 11, 12, 13]), (37, S3, nv .i64 [0]), (18, S2, nv .i64 [0, 1, 2, 3, 4]), ((0 : Int), S1, nv .i64 [0])], ∃ ps, namedP op = some ps ∧ x.2.2 = nv .i64 ps ∧ r = some (.slice (some ⟨x.2.1, 0, none⟩) ps.length ps.length)) := by
  intro r hr
  by_cases h0 : op = 0
  · subst h0; right; exact ⟨(0, S1, nv .i64 [0]), by simp, [0], rfl, rfl, by rw [← hr]; rfl⟩
  by_cases h1 : op = 18
  · subst h1; right; exact ⟨(18, S2, nv .i64 [0, 1, 2, 3, 4]), by simp, _, rfl, rfl, by rw [← hr]; rfl⟩
  by_cases h2 : op = 37
  · subst h2; right; exact ⟨(37, S3, nv .i64 [0]), by simp, _, rfl, rfl, by rw [← hr]; rfl⟩
  by_cases h3 : op = 158
  · subst h3; right; exact ⟨(158, S4, nv .i64 [0, 1, 10, 11, 12, 13]), by simp, _, rfl, rfl, by rw [← hr]; rfl⟩
  by_cases h4 : op = 160
  · subst h4; right; exact ⟨(160, S5, nv .i64 [0, 2, 6, 7, 8, 9]), by simp, _, rfl, rfl, by rw [← hr]; rfl⟩
  by_cases h5 : op = 94
  · subst h5; right; exact ⟨(94, S6, nv .i64 [0, 1, 7, 8]), by simp, _, rfl, rfl, by rw [← hr]; rfl⟩
  by_cases h6 : op = 95
  · subst h6; right; exact ⟨(95, S7, nv .i64 [0, 1, 2, 5, 6, 7, 8]), by simp, _, rfl, rfl, by rw [← hr]; rfl⟩
  by_cases h7 : op = 66
  · subst h7; right; exact ⟨(66, S8, nv .i64 [0, 7, 8]), by simp, _, rfl, rfl, by rw [← hr]; rfl⟩
  left
  have e : ∀ k : Nat, op ≠ k → ((op : Int) == (k : Int)) = false := fun k h => by simp; omega
  refine ⟨?_, by simp [namedP, h0, h1, h2, h3, h4, h5, h6, h7]⟩
  rw [← hr]
  have e0 := e 0 h0
  have e1 := e 18 h1
  have e2 := e 37 h2
  have e3 := e 158 h3
  have e4 := e 160 h4
  have e5 := e 94 h5
  have e6 := e 95 h6
  have e7 := e 66 h7
  simp only [Int.cast_ofNat_Int, Int.ofNat_eq_natCast] at e0 e1 e2 e3 e4 e5 e6 e7
  simp only [looks, List.find?_cons]
  simp [e0, e1, e2, e3, e4, e5, e6, e7]

/-- Behind the loop. -/
structure Mixed (w W : World) (B0 C : Nat) (b m : List Nat) : Prop where
  a : IsBlk W B0 (nv .u8 b) 29
  c : IsBlk W C (nv .u8 m) 29
  bel : Below w.heap.size w W

set_option maxRecDepth 100000 in
set_option maxHeartbeats 4000000 in
theorem spares_walk (b s : List Nat) (hl : b.length = 16) (hb : ∀ c ∈ b, c < 256) (hsl : s.length = 16) (hs : ∀ c ∈ s, c < 256) (w : World) :
    Calls Try.prog 4 #[.agg (nv .u8 b), .agg (nv .u8 s)] w fun e w' => e = .returned (.bool true) ∧ Below w.heap.size w w' := by
  obtain ⟨op, hop⟩ : ∃ op, op = b.getD 0 0 := ⟨_, rfl⟩
  have l0 : op < 256 := by rw [hop]; exact hb _ (by simp [List.getD, List.getElem?_eq_getElem (show 0 < b.length by omega)])
  have HB := Lib.hid hb
  have HL := Lib.hid hl
  have HS := Lib.hid hs
  have HSL := Lib.hid hsl
  have HOP := Lib.hid hop
  clear hb hl hs hsl hop
  have hmm := @run_makeMap Try.prog
  go_enter Try.func4, Try.ntmps4
  go_wp2_with fail
  refine (stands_any _).mono ?_
  rintro e w1 ⟨rfl, hb1⟩
  have K1 : Hid (IsBlk w1 w.heap.size (nv .u8 b) 29 ∧ IsBlk w1 (w.heap.size + 1) (nv .u8 s) 29 ∧ Below w.heap.size w w1) := by
    have k0 := (IsBlk.new w (nv .u8 b) 29).alloc (.cells (nv .u8 s) 29)
    have k1 := IsBlk.new (w.alloc (.cells (nv .u8 b) 29)) (nv .u8 s) 29
    rw [World.size_alloc] at k1
    exact Lib.hid ⟨k0.below hb1 k0.lt, k1.below hb1 k1.lt, (((Below.refl _ _).alloc (Nat.le_refl _) _).alloc (by simp) _).trans (hb1.mono (by simp; omega))⟩
  clear hb1
  generalize hB1 : w.heap.size + 1 = B1 at *
  have hB1' : B1 = w.heap.size + 1 := hB1.symm
  have HBB := Lib.hid hB1'
  clear hB1 hB1'
  have HN : Hid (Named w1 (w1.alloc (.map #[] 0)) w1.heap.size 3 []) := Lib.hid ⟨IntMap.new w1 .u8, by simp, (Below.refl _ _).alloc (Nat.le_refl _) _, Nat.le_refl _⟩
  go_upto_region 4 with (refine wpList_insert_int (by rfl) _ _ _ (t := 37) (kt := 5) (e := 36) (by rfl) Try.underlying37 Try.underlying5 (by rfl) _ (by rfl) (HN.out.map.alloc _) _ (by rfl) ?_; intro w2 hm ht; have HN := Lib.hid (Named.step HN.out hm ht (by simp) (by rfl)); clear hm ht)
  obtain ⟨S1, S2, S3, S4, S5, S6, S7, S8, hN⟩ : ∃ S1 S2 S3 S4 S5 S6 S7 S8, Named w1 w2 w1.heap.size 3 [(66, S8, nv .i64 [0, 7, 8]), (95, S7, nv .i64 [0, 1, 2, 5, 6, 7, 8]), (94, S6, nv .i64 [0, 1, 7, 8]), (160, S5, nv .i64 [0, 2, 6, 7, 8, 9]), (158, S4, nv .i64 [0, 1, 10, 11, 12, 13]), (37, S3, nv .i64 [0]), (18, S2, nv .i64 [0, 1, 2, 3, 4]), (0, S1, nv .i64 [0])] := ⟨_, _, _, _, _, _, _, _, HN.out⟩
  obtain ⟨r, hr⟩ : ∃ r, looks [(66, S8, nv .i64 [0, 7, 8]), (95, S7, nv .i64 [0, 1, 2, 5, 6, 7, 8]), (94, S6, nv .i64 [0, 1, 7, 8]), (160, S5, nv .i64 [0, 2, 6, 7, 8, 9]), (158, S4, nv .i64 [0, 1, 10, 11, 12, 13]), (37, S3, nv .i64 [0]), (18, S2, nv .i64 [0, 1, 2, 3, 4]), (0, S1, nv .i64 [0])] (op : Int) = r := ⟨_, rfl⟩
  have HR := Lib.hid (named_looks S1 S2 S3 S4 S5 S6 S7 S8 op r hr)
  have HN2 := Lib.hid (And.intro hN (And.intro hr (And.intro (K1.out.1.below hN.bel K1.out.1.lt) (And.intro (K1.out.2.1.below hN.bel K1.out.2.1.lt) (K1.out.2.2.trans (hN.bel.mono K1.out.2.2.size))))))
  clear hN hr HN K1
  have a0 := HN2.out.2.2.1.cell 0 (nv_get .u8 b 0 (by have := HL.out; omega))
  rw [← HOP.out] at a0
  have qz : ∀ w, (zeroValue 36).run Try.prog w = .ok (.slice none 0 0) w := fun w => by kernel_rfl
  rcases HR.out with ⟨hr1, hr2⟩ | ⟨x, hx, ps, hr2, hr1, hr3⟩
  · subst hr1
    clear hr2 HR
    go_wp2_with (refine wpList_lookupOk_int (by rfl) (.tmp 28) (.tmp 30) (t := 37) (kt := 5) (e := 36) (by rfl) Try.underlying37 Try.underlying5 (by rfl) (op : Int) (by rfl) HN2.out.1.map (qz _) none HN2.out.2.1 ?_)
    go_ret
    exact ⟨rfl, HN2.out.2.2.2.2⟩
  · subst hr3
    clear HR
    have hS := (HN2.out.1.rows x hx).1
    rw [hr1] at hS
    have HQ : Hid (IsBlk w2 w.heap.size (nv .u8 b) 29 ∧ IsBlk w2 B1 (nv .u8 s) 29 ∧ IsBlk w2 x.2.1 (nv .i64 ps) 3 ∧ Below w.heap.size w w2) := Lib.hid ⟨HN2.out.2.2.1, HN2.out.2.2.2.1, hS, HN2.out.2.2.2.2⟩
    have HP := Lib.hid hr2
    have hmap := HN2.out.1.map
    have hlook := Lib.hid HN2.out.2.1
    generalize x.2.1 = S at *
    clear hx hr1 hr2 hS
    go_upto_region 7 with (refine wpList_lookupOk_int (by rfl) (.tmp 28) (.tmp 30) (t := 37) (kt := 5) (e := 36) (by rfl) Try.underlying37 Try.underlying5 (by rfl) (op : Int) (by rfl) hmap (qz _) (some (.slice (some ⟨S, 0, none⟩) ps.length ps.length)) hlook.out ?_)
    clear hmap hlook HN2 a0
    have K3 : Hid (IsBlk w2 B1 (nv .u8 s) 29 ∧ IsBlk (w2.alloc (.cells #[.int .u8 0, .int .u8 0, .int .u8 0, .int .u8 0, .int .u8 0, .int .u8 0, .int .u8 0, .int .u8 0, .int .u8 0, .int .u8 0, .int .u8 0, .int .u8 0, .int .u8 0, .int .u8 0, .int .u8 0, .int .u8 0] 29)) w2.heap.size #[.int .u8 0, .int .u8 0, .int .u8 0, .int .u8 0, .int .u8 0, .int .u8 0, .int .u8 0, .int .u8 0, .int .u8 0, .int .u8 0, .int .u8 0, .int .u8 0, .int .u8 0, .int .u8 0, .int .u8 0, .int .u8 0] 29) := Lib.hid ⟨HQ.out.2.1, IsBlk.new _ _ _⟩
    go_upto_region 8 with (first | (refine wpList_load_row (by rfl) 29 (.tmp 3) (by rfl) B1 (by rfl) 29 (nv .u8 (s)) (0, 0) _ (by exact K3.out.1) Try.underlying29 rfl (by rw [nv_size, HSL.out]; kernel_rfl) ?_) | (refine wpList_store_row (by rfl) 29 (.tmp 8) (.tmp 36) (by rfl) w2.heap.size (nv .u8 s) (by rfl) (by rfl) 29 #[.int .u8 0, .int .u8 0, .int .u8 0, .int .u8 0, .int .u8 0, .int .u8 0, .int .u8 0, .int .u8 0, .int .u8 0, .int .u8 0, .int .u8 0, .int .u8 0, .int .u8 0, .int .u8 0, .int .u8 0, .int .u8 0] (by exact K3.out.2) (by rw [nv_size, HSL.out]; kernel_rfl) (by simp [nv_size, HSL.out]) (nv_one _ _) ?_))
    have K4 : Hid (IsBlk ((w2.alloc (.cells #[.int .u8 0, .int .u8 0, .int .u8 0, .int .u8 0, .int .u8 0, .int .u8 0, .int .u8 0, .int .u8 0, .int .u8 0, .int .u8 0, .int .u8 0, .int .u8 0, .int .u8 0, .int .u8 0, .int .u8 0, .int .u8 0] 29)).setRow w2.heap.size (nv .u8 s)) w.heap.size (nv .u8 b) 29 ∧ IsBlk ((w2.alloc (.cells #[.int .u8 0, .int .u8 0, .int .u8 0, .int .u8 0, .int .u8 0, .int .u8 0, .int .u8 0, .int .u8 0, .int .u8 0, .int .u8 0, .int .u8 0, .int .u8 0, .int .u8 0, .int .u8 0, .int .u8 0, .int .u8 0] 29)).setRow w2.heap.size (nv .u8 s)) w2.heap.size (nv .u8 (mixP b s (ps.take 0))) 29 ∧ IsBlk ((w2.alloc (.cells #[.int .u8 0, .int .u8 0, .int .u8 0, .int .u8 0, .int .u8 0, .int .u8 0, .int .u8 0, .int .u8 0, .int .u8 0, .int .u8 0, .int .u8 0, .int .u8 0, .int .u8 0, .int .u8 0, .int .u8 0, .int .u8 0] 29)).setRow w2.heap.size (nv .u8 s)) S (nv .i64 ps) 3 ∧ Below w.heap.size w ((w2.alloc (.cells #[.int .u8 0, .int .u8 0, .int .u8 0, .int .u8 0, .int .u8 0, .int .u8 0, .int .u8 0, .int .u8 0, .int .u8 0, .int .u8 0, .int .u8 0, .int .u8 0, .int .u8 0, .int .u8 0, .int .u8 0, .int .u8 0] 29)).setRow w2.heap.size (nv .u8 s)) ∧ w.heap.size ≠ w2.heap.size ∧ S ≠ w2.heap.size ∧ w.heap.size ≤ w2.heap.size) := by
      have e1 := HQ.out.1.lt
      have e2 := HQ.out.2.2.1.lt
      have e3 := HQ.out.2.2.2.size
      exact Lib.hid ⟨isBlk_setRowOther (HQ.out.1.alloc _) (by omega) _, isBlk_setRow K3.out.2 _, isBlk_setRowOther (HQ.out.2.2.1.alloc _) (by omega) _, below_setRow (HQ.out.2.2.2.alloc e3 _) _ e3 _, by omega, by omega, e3⟩
    generalize ((w2.alloc (.cells #[.int .u8 0, .int .u8 0, .int .u8 0, .int .u8 0, .int .u8 0, .int .u8 0, .int .u8 0, .int .u8 0, .int .u8 0, .int .u8 0, .int .u8 0, .int .u8 0, .int .u8 0, .int .u8 0, .int .u8 0, .int .u8 0] 29)).setRow w2.heap.size (nv .u8 s)) = W8 at *
    clear K3 HQ
    generalize w2.heap.size = C at *
    have hps : ps.length ≤ 16 := by
      have h := HP.out
      unfold namedP at h
      (repeat' split at h) <;> first | (cases h; done) | (injection h with h; subst h; simp)
    go_wp2_with fail
    go_loopw [39] (fun i wr => ∃ k : Nat, k ≤ ps.length ∧ i = .int .i64 k ∧ IsBlk wr w.heap.size (nv .u8 b) 29 ∧ IsBlk wr C (nv .u8 (mixP b s (ps.take k))) 29 ∧ IsBlk wr S (nv .i64 ps) 3 ∧ Below w.heap.size w wr) (fun i _ => ps.length - (intOf i).toNat)
    case atStart => exact ⟨0, by omega, rfl, K4.out.1, K4.out.2.1, K4.out.2.2.1, K4.out.2.2.2.1⟩
    case round =>
      have hCB := K4.out.2.2.2.2.1
      have hCS := K4.out.2.2.2.2.2.1
      have hCw := K4.out.2.2.2.2.2.2
      clear K4
      obtain ⟨k, hk, rfl, h1, h2, h3, h4⟩ := hrel
      by_cases hlt : k < ps.length
      · have c1 := h3.cell k (nv_get .i64 ps k hlt)
        have HM := Lib.hid (mixP_snoc b s ps k hlt)
        have hi : ps.getD k 0 < 16 := named_lt HP.out _ (by simp [List.getD, List.getElem?_eq_getElem hlt])
        have HG := Lib.hid (And.intro h1 (And.intro h2 (And.intro h3 h4)))
        have c2 := h1.cell (ps.getD k 0) (nv_get .u8 b (ps.getD k 0) (by have := HL.out; omega))
        have c3 := h2.cell (ps.getD k 0) (nv_get .u8 _ (ps.getD k 0) (by rw [mixP_length, HSL.out]; omega))
        have f3 := h2.fz
        clear h1 h2 h3 h4
        generalize b.getD (ps.getD k 0) 0 = bi at *
        generalize ps.getD k 0 = i at *
        go_wp2_with fail
        go_roundw
        case rel => exact ⟨k + 1, by omega, by go_num, HG.out.1.setOther _ _ hCB, by rw [HM.out, ← nv_set]; exact HG.out.2.1.set i _, HG.out.2.2.1.setOther _ _ hCS, HG.out.2.2.2.setCell (p := ⟨C, i, none⟩) hCw _⟩
        case measure => simp [intOf]; omega
      · obtain rfl : k = ps.length := by omega
        rw [List.take_length] at h2
        have HG := Lib.hid (And.intro h1 (And.intro h2 h4))
        clear h1 h2 h3 h4
        have hml : (mixP b s ps).length = 16 := by rw [mixP_length]; exact HSL.out
        have hsame : decP b = decP (mixP b s ps) := decP_spares b _ HL.out hml ps (by rw [← HOP.out]; exact HP.out) (fun i hi => (mixP_at b i ps s hi (by have := named_lt HP.out i hi; have := HSL.out; omega)).symm)
        obtain ⟨t, c, hr⟩ : ∃ t c, decP b = (t, c) := ⟨_, _, rfl⟩
        have HR1 := Lib.hid (dec_row b HL.out HB.out t c hr)
        have HR2 := Lib.hid (dec_row (mixP b s ps) hml (mixP_lt b HB.out ps s HS.out) t c (by rw [← hsame]; exact hr))
        have HML := Lib.hid hml
        clear hsame hr hml
        generalize mixP b s ps = mx at *
        go_wp2_with (refine wpList_load_row (by rfl) 29 (.tmp 2) (by rfl) w.heap.size (by rfl) 29 (nv .u8 (b)) (0, 0) _ (by exact HG.out.1) Try.underlying29 rfl (by rw [nv_size, HL.out]; kernel_rfl) ?_)
        refine (HR1.out _).mono ?_
        rintro e w6 ⟨rfl, hb6⟩
        have K6 : Hid (IsBlk w6 C (nv .u8 mx) 29 ∧ IsBlk (w6.alloc (.cells ({} : TK).cells 32)) w6.heap.size ({} : TK).cells 32 ∧ Below w.heap.size w w6) := Lib.hid ⟨HG.out.2.1.below hb6 HG.out.2.1.lt, IsBlk.new _ _ _, HG.out.2.2.trans (hb6.mono HG.out.2.2.size)⟩
        clear hb6 HG HR1
        go_upto_region 14 with (refine wpList_store_row (by rfl) 32 (.tmp 11) (.tmp 52) (by rfl) w6.heap.size t.cells (by rfl) (by rfl) 32 ({} : TK).cells (by exact K6.out.2.1) (by kernel_rfl) (by rfl) (tk_one _) ?_)
        have K7 : Hid (IsBlk ((w6.alloc (.cells #[.int .i64 0, .int .u64 0, .int .u64 0, .bool false, .bool false, .int .i64 0, .int .i64 0, .int .i64 0, .int .i64 0, .int .i64 0, .int .i64 0, .bool false] 32)).setRow w6.heap.size t.cells) C (nv .u8 mx) 29 ∧ IsBlk ((w6.alloc (.cells #[.int .i64 0, .int .u64 0, .int .u64 0, .bool false, .bool false, .int .i64 0, .int .i64 0, .int .i64 0, .int .i64 0, .int .i64 0, .int .i64 0, .bool false] 32)).setRow w6.heap.size t.cells) w6.heap.size t.cells 32 ∧ Below w.heap.size w ((w6.alloc (.cells #[.int .i64 0, .int .u64 0, .int .u64 0, .bool false, .bool false, .int .i64 0, .int .i64 0, .int .i64 0, .int .i64 0, .int .i64 0, .int .i64 0, .bool false] 32)).setRow w6.heap.size t.cells)) :=
          Lib.hid ⟨isBlk_setRowOther (K6.out.1.alloc _) (by have := K6.out.1.lt; omega) _, isBlk_setRow K6.out.2.1 _, below_setRow (K6.out.2.2.alloc K6.out.2.2.size _) _ K6.out.2.2.size _⟩
        generalize ((w6.alloc (.cells #[.int .i64 0, .int .u64 0, .int .u64 0, .bool false, .bool false, .int .i64 0, .int .i64 0, .int .i64 0, .int .i64 0, .int .i64 0, .int .i64 0, .bool false] 32)).setRow w6.heap.size t.cells) = W3 at *
        clear K6
        generalize w6.heap.size = T1 at *
        go_wp2_with (refine wpList_load_row (by rfl) 29 (.tmp 8) (by rfl) C (by rfl) 29 (nv .u8 (mx)) (0, 0) _ (by exact K7.out.1) Try.underlying29 rfl (by rw [nv_size, HML.out]; kernel_rfl) ?_)
        refine (HR2.out _).mono ?_
        rintro e w7 ⟨rfl, hb7⟩
        have K8 : Hid (IsBlk w7 T1 t.cells 32 ∧ IsBlk (w7.alloc (.cells ({} : TK).cells 32)) w7.heap.size ({} : TK).cells 32 ∧ Below w.heap.size w w7) := Lib.hid ⟨K7.out.2.1.below hb7 K7.out.2.1.lt, IsBlk.new _ _ _, K7.out.2.2.trans (hb7.mono K7.out.2.2.size)⟩
        clear hb7 K7 HR2
        go_upto_region 15 with (refine wpList_store_row (by rfl) 32 (.tmp 13) (.tmp 57) (by rfl) w7.heap.size t.cells (by rfl) (by rfl) 32 ({} : TK).cells (by exact K8.out.2.1) (by kernel_rfl) (by rfl) (tk_one _) ?_)
        have K5 : Hid (IsBlk ((w7.alloc (.cells #[.int .i64 0, .int .u64 0, .int .u64 0, .bool false, .bool false, .int .i64 0, .int .i64 0, .int .i64 0, .int .i64 0, .int .i64 0, .int .i64 0, .bool false] 32)).setRow w7.heap.size t.cells) T1 t.cells 32 ∧ IsBlk ((w7.alloc (.cells #[.int .i64 0, .int .u64 0, .int .u64 0, .bool false, .bool false, .int .i64 0, .int .i64 0, .int .i64 0, .int .i64 0, .int .i64 0, .int .i64 0, .bool false] 32)).setRow w7.heap.size t.cells) w7.heap.size t.cells 32 ∧ Below w.heap.size w ((w7.alloc (.cells #[.int .i64 0, .int .u64 0, .int .u64 0, .bool false, .bool false, .int .i64 0, .int .i64 0, .int .i64 0, .int .i64 0, .int .i64 0, .int .i64 0, .bool false] 32)).setRow w7.heap.size t.cells)) :=
          Lib.hid ⟨isBlk_setRowOther (K8.out.1.alloc _) (by have := K8.out.1.lt; omega) _, isBlk_setRow K8.out.2.1 _, below_setRow (K8.out.2.2.alloc K8.out.2.2.size _) _ K8.out.2.2.size _⟩
        generalize ((w7.alloc (.cells #[.int .i64 0, .int .u64 0, .int .u64 0, .bool false, .bool false, .int .i64 0, .int .i64 0, .int .i64 0, .int .i64 0, .int .i64 0, .int .i64 0, .bool false] 32)).setRow w7.heap.size t.cells) = W5 at *
        clear K8
        generalize w7.heap.size = T2 at *
        have qe : ∀ w, (Op.equalIn 10000 32 (.agg #[.int .i64 t.act, .int .u64 t.lba, .int .u64 t.n, .bool t.fua, .bool t.unmap, .int .i64 t.action, .int .i64 t.scope, .int .i64 t.type, .int .i64 t.alloc, .int .i64 t.length, .int .i64 t.page, .bool t.vital]) (.agg #[.int .i64 t.act, .int .u64 t.lba, .int .u64 t.n, .bool t.fua, .bool t.unmap, .int .i64 t.action, .int .i64 t.scope, .int .i64 t.type, .int .i64 t.alloc, .int .i64 t.length, .int .i64 t.page, .bool t.vital])).run Try.prog w = .ok true w := fun w => by have := eq_task t t w; rw [decide_eq_true rfl] at this; exact this
        have ft := K5.out.1.fz
        have fu := K5.out.2.1.fz
        have t0 := K5.out.1.cell 0 (v := .int .i64 t.act) rfl
        have u0 := K5.out.2.1.cell 0 (v := .int .i64 t.act) rfl
        have t1 := K5.out.1.cell 1 (v := .int .u64 t.lba) rfl
        have u1 := K5.out.2.1.cell 1 (v := .int .u64 t.lba) rfl
        have t2 := K5.out.1.cell 2 (v := .int .u64 t.n) rfl
        have u2 := K5.out.2.1.cell 2 (v := .int .u64 t.n) rfl
        have t3 := K5.out.1.cell 3 (v := .bool t.fua) rfl
        have u3 := K5.out.2.1.cell 3 (v := .bool t.fua) rfl
        have t4 := K5.out.1.cell 4 (v := .bool t.unmap) rfl
        have u4 := K5.out.2.1.cell 4 (v := .bool t.unmap) rfl
        have t5 := K5.out.1.cell 5 (v := .int .i64 t.action) rfl
        have u5 := K5.out.2.1.cell 5 (v := .int .i64 t.action) rfl
        have t6 := K5.out.1.cell 6 (v := .int .i64 t.scope) rfl
        have u6 := K5.out.2.1.cell 6 (v := .int .i64 t.scope) rfl
        have t7 := K5.out.1.cell 7 (v := .int .i64 t.type) rfl
        have u7 := K5.out.2.1.cell 7 (v := .int .i64 t.type) rfl
        have t8 := K5.out.1.cell 8 (v := .int .i64 t.alloc) rfl
        have u8 := K5.out.2.1.cell 8 (v := .int .i64 t.alloc) rfl
        have t9 := K5.out.1.cell 9 (v := .int .i64 t.length) rfl
        have u9 := K5.out.2.1.cell 9 (v := .int .i64 t.length) rfl
        have t10 := K5.out.1.cell 10 (v := .int .i64 t.page) rfl
        have u10 := K5.out.2.1.cell 10 (v := .int .i64 t.page) rfl
        have t11 := K5.out.1.cell 11 (v := .bool t.vital) rfl
        have u11 := K5.out.2.1.cell 11 (v := .bool t.vital) rfl
        go_wp2_with fail
        go_ret
        exact ⟨rfl, K5.out.2.2⟩
theorem cdbSpares_law (v0 v1 : Value) (D0 D1 : D) (W : World) (r0 : RdV Try.prog W 29 v0 D0) (r1 : RdV Try.prog W 29 v1 D1) :
    Calls Try.prog 4 #[v0, v1] W fun e w' => e = .returned (.bool true) ∧ Below W.heap.size W w' := by
  obtain ⟨b, rfl, hl, hb⟩ := r0.row16
  obtain ⟨s, rfl, hsl, hs⟩ := r1.row16
  exact spares_walk b s hl hb hsl hs W
end Go.Proofs.Ytpcgnffkhkdkhaa
