/-
  disk: the document's Read.
-/
import Derived.Test.YtjmjfgbpjecgfaaDoorRdMem
import Derived.Deep.LoopGhost
namespace Go.Proofs.YtjmjfgbpjecgfaaDoor
set_option linter.unusedVariables false
set_option linter.unusedSimpArgs false
open Go.RowKit

theorem getD_set_ne (l : List (List Nat)) (i j : Nat) (v : List Nat) (h : i ≠ j) : (l.set i v).getD j zeroPg = l.getD j zeroPg := by
  simp only [List.getD, List.getElem?_set, if_neg h]
theorem applyP_none {l : List (Nat × List Nat)} : ∀ {f : List (List Nat)} {i : Nat}, (∀ x ∈ l, x.1 ≠ i) → (applyP f l).getD i zeroPg = f.getD i zeroPg := by
  induction l with
  | nil => intro f i _; rfl
  | cons x r ih =>
    intro f i h
    rw [applyP_cons, ih (fun y hy => h y (List.mem_cons_of_mem _ hy)), getD_set_ne _ _ _ _ (h x (by simp))]
theorem applyP_at {f : List (List Nat)} {l : List (Nat × List Nat)} {i k : Nat} {x : Nat × List Nat} (hl : ∀ y ∈ l, y.1 < f.length) (hk : l[k]? = some x) (hx : x.1 = i) (hn : ∀ (j : Nat) y, k < j → l[j]? = some y → y.1 ≠ i) : (applyP f l).getD i zeroPg = x.2 := by
  have hkl : k < l.length := (List.getElem?_eq_some_iff.1 hk).1
  have e : l = l.take k ++ (x :: l.drop (k + 1)) := by
    have h1 : l.drop k = x :: l.drop (k + 1) := by rw [List.drop_eq_getElem_cons hkl, (List.getElem?_eq_some_iff.1 hk).2]
    rw [← h1, List.take_append_drop]
  have hd : ∀ y ∈ l.drop (k + 1), y.1 ≠ i := fun y hy => by
    obtain ⟨j, hj, rfl⟩ := List.mem_iff_getElem.1 hy
    rw [List.length_drop] at hj
    rw [List.getElem_drop]
    exact hn (k + 1 + j) _ (by omega) (List.getElem?_eq_getElem (by omega))
  rw [e, applyP_append, applyP_cons, applyP_none hd, getD_set _ _ _ _ (by rw [applyP_length]; exact hl x (List.mem_of_getElem? hk)), if_pos hx]

section
variable {w : World} {base rb fb cap : Nat} {av wv : Value} {d : DK}
theorem rread_ret {W w1 w2 : World} {p0 p : List Nat} {a : Act} {v : Value} {R : Ending → World → Prop} (h : NewPg W w1 p0) (hb : Below w1.heap.size w1 w2) (hp : p.length = 64) (h4 : a.tmps.getD 4 undef = .pointer (some ⟨W.heap.size, 0, none⟩)) (h5 : a.tmps.getD 5 undef = v) (hd : a.defers = [])
    (hR : Below W.heap.size W (w2.setRow W.heap.size (nv .u8 p)) → But (fun k => k = W.heap.size) w2 (w2.setRow W.heap.size (nv .u8 p)) → R (.returned (.tuple #[pgV p, v])) (w2.setRow W.heap.size (nv .u8 p))) : bodyPost Tryd.prog Tryd.f22 R .ret a (w2.setRow W.heap.size (nv .u8 p)) := by
  have hblk : IsBlk w2 W.heap.size (nv .u8 p0) 33 := h.blk.below hb h.blk.lt
  refine bodyPost_ret (v := .tuple #[pgV p, v]) ?_ hd (hR ((h.below.trans (hb.mono h.below.size)).trans ((setRow_but _ _ _).below (Nat.le_trans h.below.size hb.size) (fun k hk => by omega))) (setRow_but _ _ _))
  rw [← h5]
  exact results_cell_tmp Tryd.results22 _ _ W.heap.size 33 (nv .u8 p) (0, 0) (.array 64 5) h4 (isBlk_setRow hblk _) (by kernel_rfl) rfl (info_pg _ hp)

set_option maxHeartbeats 2000000 in
theorem rread_off (h : IsRd w base rb fb cap av wv d) (i : Int) (ho : d.off = true) : Calls Tryd.prog 22 #[.pointer (some ⟨rb, 0, none⟩), .int .i64 i] w fun e w' => e = .returned (.tuple #[pgV zeroPg, .int .i64 10]) ∧ Below w.heap.size w w' := by
  go_enter Tryd.func22, Tryd.ntmps22
  go_upto_region 1 with fail
  change Code.wp _ _ _ _ (w.alloc (.cells (nv .u8 zeroPg) 33))
  have hw := newPg w
  generalize w.alloc (.cells (nv .u8 zeroPg) 33) = w1 at hw ⊢
  have c4 := (h.below hw.below).c4
  rw [ho] at c4
  have HW := Lib.hid hw
  clear h hw ho
  go_wp2_with (refine wpList_store_row (by rfl) 33 (.tmp 4) (.tmp 11) (by rfl) w.heap.size (nv .u8 zeroPg) (by rfl) (by rfl) 33 (nv .u8 zeroPg) (by exact HW.out.blk) (info_pg _ zeroPg_length) (by rfl) (nv_one _ _) ?_)
  (try simp only [Exit.inBlock, Exit.then])
  exact rread_ret HW.out (Below.refl _ _) zeroPg_length rfl rfl rfl fun h1 _ => ⟨rfl, h1⟩
set_option maxHeartbeats 2000000 in
theorem rread_bad (h : IsRd w base rb fb cap av wv d) (i : Int) (ho : d.off = false) (hb : d.bad i = true) : Calls Tryd.prog 22 #[.pointer (some ⟨rb, 0, none⟩), .int .i64 i] w fun e w' => e = .returned (.tuple #[pgV zeroPg, .int .i64 1]) ∧ Below w.heap.size w w' := by
  go_enter Tryd.func22, Tryd.ntmps22
  go_upto_region 1 with fail
  change Code.wp _ _ _ _ (w.alloc (.cells (nv .u8 zeroPg) 33))
  have hw := newPg w
  generalize w.alloc (.cells (nv .u8 zeroPg) 33) = w1 at hw ⊢
  have c4 := (h.below hw.below).c4
  rw [ho] at c4
  have hno := ref_no (h.below hw.below) i
  rw [hb] at hno
  have HW := Lib.hid hw
  clear h hw ho hb
  go_wp2_with (first
    | (go_at_call 29; (with_reducible refine hno.mono ?_); rintro e w' ⟨rfl, rfl⟩)
    | (refine wpList_store_row (by rfl) 33 (.tmp 4) (.tmp 15) (by rfl) w.heap.size (nv .u8 zeroPg) (by rfl) (by rfl) 33 (nv .u8 zeroPg) (by exact HW.out.blk) (info_pg _ zeroPg_length) (by rfl) (nv_one _ _) ?_))
  (try simp only [Exit.inBlock, Exit.then])
  exact rread_ret HW.out (Below.refl _ _) zeroPg_length rfl rfl rfl fun h1 _ => ⟨rfl, h1⟩
set_option maxHeartbeats 4000000 in
theorem rread_ok (h : IsRd w base rb fb cap av wv d) (i : Nat) (ho : d.off = false) (hi : i < d.firm.length) (hl : d.pend.length ≤ 1000000) : Calls Tryd.prog 22 #[.pointer (some ⟨rb, 0, none⟩), .int .i64 (i : Int)] w fun e w' => e = .returned (.tuple #[pgV (d.cur.getD i zeroPg), .int .i64 0]) ∧ Below w.heap.size w w' := by
  have hb : d.bad (i : Int) = false := by simp only [DK.bad, Bool.or_eq_false_iff, decide_eq_false_iff_not]; omega
  have HP := Lib.hid (And.intro h.pend hi)
  generalize hcur : d.cur.getD i zeroPg = P
  have HCUR := Lib.hid hcur
  clear hcur
  go_enter Tryd.func22, Tryd.ntmps22
  go_upto_region 1 with fail
  change Code.wp _ _ _ _ (w.alloc (.cells (nv .u8 zeroPg) 33))
  have hw := newPg w
  generalize w.alloc (.cells (nv .u8 zeroPg) 33) = w1 at hw ⊢
  have h1 := h.below hw.below
  have c0 := h1.c0
  have c1 := h1.c1
  have c2 := h1.c2
  have c4 := h1.c4
  rw [ho] at c4
  have hno := ref_no h1 (i : Int)
  rw [hb] at hno
  have HW := Lib.hid (And.intro hw h1)
  obtain ⟨aa, ac, rfl⟩ := h1.at_.slice
  obtain ⟨wa, wc, rfl⟩ := h1.what.slice
  clear h hw h1 ho hb hi
  go_wp2_with (first
    | (go_at_call 29; (with_reducible refine hno.mono ?_); rintro e w' ⟨rfl, hw'⟩; obtain rfl := hw'.symm))
  go_loopw [6] (fun v wr => ∃ k : Nat, k ≤ d.pend.length ∧ v = .int .i64 ((k : Int) - 1) ∧ wr = w1 ∧ Hid (∀ (j : Nat) y, k ≤ j → d.pend[j]? = some y → y.1 ≠ i)) (fun v _ => (intOf v + 1).toNat)
  case atStart => exact ⟨d.pend.length, by omega, by go_num, rfl, fun j y hj hy => by have := (List.getElem?_eq_some_iff.1 hy).1; omega⟩
  case round =>
    obtain ⟨k, hk, rfl, rfl, HN⟩ := hrel
    rcases k with _ | k
    · have hPc : P = d.firm.getD i zeroPg := HCUR.out.symm.trans (applyP_none (fun x hx => by
        obtain ⟨j, hj, rfl⟩ := List.mem_iff_getElem.1 hx
        exact HN.out j _ (Nat.zero_le _) (List.getElem?_eq_getElem hj)))
      have hi := HP.out.2
      have hx : d.firm[i]? = some (d.firm.getD i zeroPg) := by simp [List.getD, List.getElem?_eq_getElem hi]
      rw [← hPc] at hx
      clear hPc
      have hxl : P.length = 64 := by
        have := HW.out.2.firm.1 P (List.mem_of_getElem? hx)
        rwa [pgF_length] at this
      obtain ⟨g, cc, e, hrg, _⟩ := HW.out.2.firm.range (by decide) hx
      injection e with e1 _ e3
      injection e1 with e1
      injection e1 with e1
      subst e1 e3
      have hcc1 : d.firm.length ≤ cap := by
        obtain ⟨g', cap', cur', e, _, _, h5, _⟩ := HW.out.2.firm.block (by intro e; rw [e] at hi; simp at hi)
        injection e with _ _ e
        subst e
        exact h5
      have HX := Lib.hid (And.intro hxl hrg)
      have hii : (i : Int) < (d.firm.length : Int) := by omega
      clear hx hxl hrg hi
      go_wp2_with (first
        | (refine wpList_load_mid (by rfl) 33 (.tmp 47) (by rfl) fb (i * 64) (by rfl) (bv P) _ HX.out.2 Tryd.underlying33 rfl (by rw [bv_length, HX.out.1]; kernel_rfl) ?_)
        | (refine wpList_store_row (by rfl) 33 (.tmp 4) (.tmp 48) (by rfl) w.heap.size (nv .u8 P) (by rfl) (by rfl) 33 (nv .u8 zeroPg) (by exact HW.out.1.blk) (info_pg _ HX.out.1) (by rw [nv_size, nv_size, HX.out.1]; rfl) (nv_one _ _) ?_))
      (try simp only [Exit.inBlock, Exit.then])
      exact rread_ret HW.out.1 (Below.refl _ _) HX.out.1 rfl rfl rfl fun h1 _ => ⟨rfl, h1⟩
    · have hkl : k < d.pend.length := by omega
      have hx : d.pend[k]? = some d.pend[k] := List.getElem?_eq_getElem hkl
      generalize d.pend[k] = x at hx
      obtain ⟨g, cc, e, hrg, _⟩ := HW.out.2.at_.range (by decide) hx
      injection e with e1 _ e3
      subst e1 e3
      have hca : d.pend.length ≤ ac := by
        obtain ⟨g', cap', cur', e, _, _, h5, _⟩ := HW.out.2.at_.block (by intro e; rw [e] at hkl; simp at hkl)
        injection e with _ _ e
        subst e
        exact h5
      have ca := hrg 0 _ rfl
      rw [Nat.mul_one, Nat.add_zero] at ca
      clear hrg
      have e1 : ((k + 1 : Nat) : Int) - 1 = (k : Int) := by omega
      rw [e1]
      have hk0 : (0 : Int) ≤ (k : Int) := by omega
      have hkI : (k : Int) < (d.pend.length : Int) := by omega
      by_cases hxi : x.1 = i
      · have hPc : P = x.2 := HCUR.out.symm.trans (applyP_at HP.out.1 hx hxi (fun j y hj hy => HN.out j y hj hy))
        subst hPc
        obtain ⟨g2, cc2, e, hrg, _⟩ := HW.out.2.what.range (by decide) hx
        injection e with e2 _ e3
        subst e2 e3
        have hcw : d.pend.length ≤ wc := by
          obtain ⟨g', cap', cur', e, _, _, h5, _⟩ := HW.out.2.what.block (by intro e; rw [e] at hkl; simp at hkl)
          injection e with _ _ e
          subst e
          exact h5
        have hxl : x.2.length = 64 := by
          have := HW.out.2.what.1 x (List.mem_of_getElem? hx)
          unfold whF at this
          rwa [bv_length] at this
        have HX := Lib.hid (And.intro hxl hrg)
        rw [hxi] at ca
        clear hx hxl hrg hxi e1
        go_wp2_with (first
          | (refine wpList_load_mid (by rfl) 33 (.tmp 40) (by rfl) g2 (k * 64) (by rfl) (bv x.2) _ HX.out.2 Tryd.underlying33 rfl (by rw [bv_length, HX.out.1]; kernel_rfl) ?_)
          | (refine wpList_store_row (by rfl) 33 (.tmp 4) (.tmp 41) (by rfl) w.heap.size (nv .u8 x.2) (by rfl) (by rfl) 33 (nv .u8 zeroPg) (by exact HW.out.1.blk) (info_pg _ HX.out.1) (by rw [nv_size, nv_size, HX.out.1]; rfl) (nv_one _ _) ?_))
        (try simp only [Exit.inBlock, Exit.then])
        exact rread_ret HW.out.1 (Below.refl _ _) HX.out.1 rfl rfl rfl fun h1 _ => ⟨rfl, h1⟩
      · have hne : ((x.1 : Int) == (i : Int)) = false := by simp; omega
        have HX := Lib.hid (And.intro hx hxi)
        clear hx hxi e1
        go_wp2
        go_round
        case rel => exact ⟨k, by omega, by go_num, trivial, fun j y hj hy => by
          by_cases e : j = k
          · subst e
            have := HX.out.1.symm.trans hy
            rw [← Option.some.inj this]
            exact HX.out.2
          · exact HN.out j y (by omega) hy⟩
        case measure => simp [intOf] <;> omega
/-- Read, whatever is asked for. -/
theorem ref_read (h : IsRd w base rb fb cap av wv d) (i : Int) (hl : d.pend.length ≤ 1000000) : Calls Tryd.prog 22 #[.pointer (some ⟨rb, 0, none⟩), .int .i64 i] w fun e w' => e = .returned (.tuple #[pgV (d.read i), .int .i64 ((d.readE i : Nat) : Int)]) ∧ Below w.heap.size w w' := by
  cases ho : d.off with
  | true =>
    have e1 : d.readE i = 10 := by simp [DK.readE, ho]
    have e2 : d.read i = zeroPg := by simp [DK.read, e1]
    rw [e1, e2]
    exact rread_off h i ho
  | false =>
    cases hb : d.bad i with
    | true =>
      have e1 : d.readE i = 1 := by simp [DK.readE, ho, hb]
      have e2 : d.read i = zeroPg := by simp [DK.read, e1]
      rw [e1, e2]
      exact rread_bad h i ho hb
    | false =>
      have e1 : d.readE i = 0 := by simp [DK.readE, ho, hb]
      have e2 : d.read i = d.cur.getD i.toNat zeroPg := by simp [DK.read, e1]
      rw [e1, e2]
      simp only [DK.bad, Bool.or_eq_false_iff, decide_eq_false_iff_not] at hb
      obtain ⟨k, rfl⟩ : ∃ k : Nat, i = (k : Int) := ⟨i.toNat, by omega⟩
      rw [Int.toNat_natCast]
      exact rread_ok h k ho (by omega) hl
end
end Go.Proofs.YtjmjfgbpjecgfaaDoor
