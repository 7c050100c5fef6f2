/-
  disk: Crash.
-/
import Derived.Test.YtjmjfgbpjecgfaaDoorDkFn6
import Derived.Test.YtjmjfgbpjecgfaaDoorRead2
namespace Go.Proofs.YtjmjfgbpjecgfaaDoor
set_option linter.unusedVariables false
set_option linter.unusedSimpArgs false
open Go.RowKit

def boF (b : Bool) : List Value := [.bool b]
/-- Which places are picked. -/
def keptL (n : Nat) (pick : List Int) : List Bool := (List.range n).map fun (k : Nat) => pick.contains (k : Int)
theorem keptL_length (n : Nat) (pick : List Int) : (keptL n pick).length = n := by simp [keptL]
theorem keptL_get {n k : Nat} {pick : List Int} (h : k < n) : (keptL n pick)[k]? = some (pick.contains (k : Int)) := by simp [keptL, h]
theorem keptL_nil (n : Nat) : keptL n [] = List.replicate n false := by
  apply List.ext_getElem?
  intro i
  by_cases h : i < n
  · rw [keptL_get h, List.getElem?_replicate, if_pos h]; rfl
  · rw [List.getElem?_eq_none (by rw [keptL_length]; omega), List.getElem?_eq_none (by rw [List.length_replicate]; omega)]
theorem keptL_in {n q : Nat} (pick : List Int) (h : q < n) : keptL n (pick ++ [(q : Int)]) = (keptL n pick).set q true := by
  apply List.ext_getElem?
  intro i
  rw [List.getElem?_set]
  by_cases hi : i < n
  · rw [keptL_get hi, keptL_get hi]
    by_cases e : q = i
    · subst e
      rw [if_pos rfl, if_pos (by rw [keptL_length]; exact h)]
      simp
    · rw [if_neg e]
      have : ¬ ((i : Int) = (q : Int)) := by omega
      simp [List.contains_eq_mem, this]
  · rw [List.getElem?_eq_none (by rw [keptL_length]; omega), if_neg (by omega), List.getElem?_eq_none (by rw [keptL_length]; omega)]
theorem keptL_out {n : Nat} {z : Int} (pick : List Int) (h : z < 0 ∨ (n : Int) ≤ z) : keptL n (pick ++ [z]) = keptL n pick := by
  apply List.ext_getElem?
  intro i
  by_cases hi : i < n
  · rw [keptL_get hi, keptL_get hi]
    have : ¬ ((i : Int) = z) := by omega
    simp [List.contains_eq_mem, this]
  · rw [List.getElem?_eq_none (by rw [keptL_length]; omega), List.getElem?_eq_none (by rw [keptL_length]; omega)]
theorem bo_typ : ∃ it z, Tryd.prog.info? 4 = some it ∧ it.zero = some z ∧ it.size = 1 ∧ it.bytes = 1 ∧ z.cells = (boF false).toArray := by
  have hA : (Tryd.prog.info? 4).bind (fun it => it.zero.map fun z => (it.size, it.bytes, z.cells)) = some (1, 1, (boF false).toArray) := by kernel_rfl
  obtain ⟨it, h1, hA⟩ := Option.bind_eq_some_iff.1 hA
  obtain ⟨z, h2, h5⟩ := Option.map_eq_some_iff.1 hA
  exact ⟨it, z, h1, h2, congrArg Prod.fst h5, congrArg (fun x => x.2.1) h5, congrArg (fun x => x.2.2) h5⟩
theorem take_snoc {α : Type} {l : List α} {k : Nat} {x : α} (h : l[k]? = some x) : l.take (k + 1) = l.take k ++ [x] := by rw [List.take_add_one, h]; rfl
theorem pickP_append (l m : List (Nat × List Nat)) (pick : List Int) : ∀ k, pickP (l ++ m) pick k = pickP l pick k ++ pickP m pick (k + l.length) := by
  induction l with
  | nil => intro k; simp [pickP]
  | cons x r ih =>
    intro k
    rw [List.cons_append, pickP, ih, pickP, List.append_assoc, List.length_cons, show k + 1 + r.length = k + (r.length + 1) by omega]
theorem pickP_snoc (l : List (Nat × List Nat)) (pick : List Int) {k : Nat} {x : Nat × List Nat} (h : l[k]? = some x) : pickP (l.take (k + 1)) pick 0 = pickP (l.take k) pick 0 ++ if pick.contains (k : Int) then [x] else [] := by
  have hk : k < l.length := (List.getElem?_eq_some_iff.1 h).1
  rw [take_snoc h, pickP_append]
  simp [pickP, List.length_take, Nat.min_eq_left (Nat.le_of_lt hk)]

theorem own_pos {w : World} {base n size : Nat} {t : TypeId} {v : Value} {xs : List Value} (h : w.ownsRow base t size v n xs) (hn : 1 ≤ n) : ∃ g c, v = .slice (some ⟨g, 0, none⟩) n c := by
  obtain ⟨g, cap, cur, rfl, _⟩ := h.2.resolve_left (fun e => by have := e.2; omega)
  exact ⟨g, cap, rfl⟩
/-- A disk in the midst of a crash. -/
def DK.half (d : DK) (pick : List Int) (k : Nat) : DK := { firm := applyP d.firm (pickP (d.pend.take k) pick 0) }
theorem half_length (d : DK) (pick : List Int) (k : Nat) : (d.half pick k).firm.length = d.firm.length := applyP_length _ _
theorem half_in (d : DK) (pick : List Int) {k : Nat} {x : Nat × List Nat} (h : d.pend[k]? = some x) (hp : pick.contains (k : Int) = true) : d.half pick (k + 1) = { d.half pick k with firm := (d.half pick k).firm.set x.1 x.2 } := by
  unfold DK.half
  rw [pickP_snoc _ _ h, if_pos hp, applyP_snoc]
theorem half_out (d : DK) (pick : List Int) {k : Nat} {x : Nat × List Nat} (h : d.pend[k]? = some x) (hp : pick.contains (k : Int) = false) : d.half pick (k + 1) = d.half pick k := by
  unfold DK.half
  rw [pickP_snoc _ _ h, if_neg (by rw [hp]; decide), List.append_nil]

section
variable {w : World} {base db fb mb cap : Nat} {cv : Value} {d : DK}

/-- A disk just made, out of a row of sectors. -/
theorem made_dk {w2 : World} {B g2 k2 : Nat} {firm : List (List Nat)} (h : RowF w2 B 33 64 pgF (.slice (some ⟨g2, 0, none⟩) firm.length k2) firm) (hB : B ≤ w2.heap.size) (h1 : 1 ≤ firm.length) (h2 : firm.length ≤ 4096) :
    IsDk ((w2.alloc (.map #[] 0)).alloc (.cells #[.slice (some ⟨g2, 0, none⟩) firm.length k2, .slice none 0 0, .map (some w2.heap.size), .int .i64 (-1), .bool false] 65)) B (w2.heap.size + 1) g2 w2.heap.size k2 (.slice none 0 0) { firm := firm } := by
  have hb2 : Below w2.heap.size w2 (w2.alloc (.map #[] 0)) := (Below.refl _ _).alloc (Nat.le_refl _) _
  refine ⟨?_, (h.below hb2).below ((Below.refl _ _).alloc (Nat.le_refl _) _), RowF.nil _ _ _ _ _, ?_, (fun x hx => by cases hx), h1, h2, (by show (-1 : Int) ≤ -1; omega), (by show (-1 : Int) ≤ 9223372036854775807; omega), Nat.le_trans hB (Nat.le_succ _), hB⟩
  · have := IsBlk.new (w2.alloc (.map #[] 0)) #[.slice (some ⟨g2, 0, none⟩) firm.length k2, .slice none 0 0, .map (some w2.heap.size), .int .i64 (-1), .bool false] 65
    rwa [show (w2.alloc (.map #[] 0)).heap.size = w2.heap.size + 1 by simp] at this
  · show IntMap _ _ _ (lastM [])
    rw [lastM_nil]
    exact (IntMap.new w2 .i64).of_below ((Below.refl _ _).alloc (Nat.le_refl _) _)

set_option maxRecDepth 100000 in
set_option maxHeartbeats 4000000 in
theorem crash_any (h : IsDk w base db fb mb cap cv d) (hl : d.pend.length < 1000001) (pa : Option Addr) (pick : List Int) (pc : Nat) (hp : IsInts .i64 w pa pick) (hpl : pick.length ≤ 35184372088832) : Calls Tryd.prog 13 #[.pointer (some ⟨db, 0, none⟩), .slice pa pick.length pc] w fun e w' => ∃ eb fb' mb' cap', e = .returned (.pointer (some ⟨eb, 0, none⟩)) ∧ IsDk w' w.heap.size eb fb' mb' cap' (.slice none 0 0) (d.crash pick) ∧ Below w.heap.size w w' := by
  obtain ⟨it, z, hi1, hi2, hi3, hi4, hi5⟩ := bo_typ
  have HI := Lib.hid (And.intro hi1 (And.intro hi2 (And.intro hi3 (And.intro hi4 hi5))))
  have hby : it.bytes * d.pend.length ≤ 281474976710656 := by rw [hi4]; omega
  have hmx : d.pend.length ≤ maxLen := by unfold maxLen; omega
  have HB := Lib.hid (And.intro hby hmx)
  clear hi1 hi2 hi3 hi4 hi5 hby hmx
  have c1 := h.c1
  obtain ⟨a, cc, rfl⟩ := h.cache.slice
  have HH := Lib.hid (And.intro h hp)
  clear h hp
  go_enter Tryd.func13, Tryd.ntmps13
  go_wp2_with (refine wpList_make_full w (by rfl) (.tmp 17) (.tmp 17) 68 (by rfl) w.heap.size 4 it z 1 Tryd.underlying68 HI.out.1 HI.out.2.1 HI.out.2.2.1 .i64 .i64 _ _ d.pend.length (by rfl) (by rfl) rfl rfl HB.out.1 HB.out.2 (Nat.le_refl _) ?_; intro w1 q1 q2; have HQ := Lib.hid (And.intro q1 q2); clear q1 q2)
  have hk0 : RowF w1 w.heap.size 4 1 boF (.slice (some ⟨w.heap.size, 0, none⟩) d.pend.length d.pend.length) (keptL d.pend.length []) := by
    rw [keptL_nil]
    exact RowF.made (by rfl) (by decide) HI.out.2.2.2.2 HQ.out.1
  have hb1 : Below w.heap.size w w1 := ⟨HQ.out.2.os, HQ.out.2.tape, HQ.out.2.output, HQ.out.2.size, fun k hk => HQ.out.2.block k hk (by simp)⟩
  have HK := Lib.hid (And.intro hk0 hb1)
  clear hk0 hb1 HQ HI HB
  go_loopw [21] (fun i wr => ∃ j : Nat, j ≤ pick.length ∧ i = .int .i64 j ∧ Hid (RowF wr w.heap.size 4 1 boF (.slice (some ⟨w.heap.size, 0, none⟩) d.pend.length d.pend.length) (keptL d.pend.length (pick.take j)) ∧ Below w.heap.size w wr)) (fun i _ => pick.length - (intOf i).toNat)
  case atStart => exact ⟨0, by omega, rfl, HK.out.1, HK.out.2⟩
  case round =>
    obtain ⟨j, hj, rfl, HR⟩ := hrel
    by_cases hlt : j < pick.length
    · have hz : pick[j]? = some pick[j] := List.getElem?_eq_getElem hlt
      obtain ⟨bp, off, rfl, hbp, hcp⟩ := HH.out.2.2.resolve_left (by intro h; rw [h] at hlt; simp at hlt)
      have hc := (HR.out.2.cell (p := ⟨bp, off + j, none⟩) hbp).trans (hcp j hlt)
      have hzd : pick.getD j 0 = pick[j] := by simp [List.getD, hz]
      rw [hzd] at hc
      generalize pick[j] = z at hc hz
      have HT := Lib.hid (take_snoc hz)
      clear hz hzd hcp hbp
      by_cases hin : 0 ≤ z ∧ z < (d.pend.length : Int)
      · obtain ⟨h0, hzn⟩ := hin
        go_upto_region 8 with fail
        obtain ⟨q, rfl⟩ : ∃ q : Nat, z = (q : Int) := ⟨z.toNat, by omega⟩
        have hq : q < d.pend.length := by omega
        clear h0 hzn
        have hqk : (keptL d.pend.length (pick.take j))[q]? = some ((pick.take j).contains (q : Int)) := keptL_get hq
        obtain ⟨g, c5, e, hrg, hth⟩ := HR.out.1.range (k := q) (by decide) hqk
        injection e with e elen ecap
        clear elen ecap
        injection e with e
        injection e with e
        subst e
        have hcb0 := hrg 0 _ rfl
        have hzb := (hth 0 (by decide)).2
        rw [Nat.mul_one, Nat.add_zero] at hcb0 hzb
        obtain ⟨b0, hcb⟩ : ∃ b0, wr.cell? ⟨w.heap.size, q, none⟩ = some (.bool b0) := ⟨_, hcb0⟩
        clear hcb0
        have hst : RowF (wr.setCell ⟨w.heap.size, q, none⟩ (.bool true)) w.heap.size 4 1 boF (.slice (some ⟨w.heap.size, 0, none⟩) d.pend.length d.pend.length) (keptL d.pend.length (pick.take (j + 1))) := by
          have := HR.out.1.set (by decide) (k := q) (by rw [keptL_length]; exact hq) true rfl (g := w.heap.size) rfl
          rw [Nat.mul_one] at this
          rw [HT.out, keptL_in _ hq]
          exact this
        have hbs : Below w.heap.size w (wr.setCell ⟨w.heap.size, q, none⟩ (.bool true)) := HR.out.2.setCell (Nat.le_refl _) _
        have HS := Lib.hid (And.intro hst hbs)
        clear hst hbs hrg hth hqk
        go_wp2
        go_round
        case rel => exact ⟨j + 1, by omega, by go_num, HS.out⟩
        case measure => simp [intOf]; omega
      · have hout : z < 0 ∨ (0 ≤ z ∧ (d.pend.length : Int) ≤ z) := by omega
        have HS := Lib.hid (show RowF wr w.heap.size 4 1 boF (.slice (some ⟨w.heap.size, 0, none⟩) d.pend.length d.pend.length) (keptL d.pend.length (pick.take (j + 1))) by
          rw [HT.out, keptL_out _ (by omega)]; exact HR.out.1)
        clear hin
        rcases hout with hneg | ⟨h0, hge⟩
        · go_wp2
          go_round
          case rel => exact ⟨j + 1, by omega, by go_num, HS.out, HR.out.2⟩
          case measure => simp [intOf]; omega
        · go_wp2
          go_round
          case rel => exact ⟨j + 1, by omega, by go_num, HS.out, HR.out.2⟩
          case measure => simp [intOf]; omega
    · obtain rfl : j = pick.length := by omega
      rw [List.take_length] at HR
      have c1r := (HR.out.2.cell (p := ⟨db, 1, none⟩) (HH.out.1.blk.lt)).trans HH.out.1.c1
      have c0r := (HR.out.2.cell (p := ⟨db, 0, none⟩) (HH.out.1.blk.lt)).trans HH.out.1.c0
      clear hj hlt
      have hfr := HH.out.1.firm.below_ HR.out.2
      have hsrc : Src wr 64 (some ⟨fb, 0, none⟩) d.firm.length (d.firm.flatMap pgF) := hfr.src (by decide)
      obtain ⟨pt, pz, hi1, hi2, hi3, hi4, hi5⟩ := pg_typ
      have hi5' : pz.cells.size = 64 := by rw [hi5]; rfl
      have hone : ∀ u ∈ d.firm.flatMap pgF, u.oneCell' = true := fun u hu => by
        obtain ⟨q, _, hq⟩ := List.mem_flatMap.1 hu
        exact bv_one _ u hq
      have hn2 := HH.out.1.n2
      have HA := Lib.hid (And.intro hsrc (And.intro hi1 (And.intro hi2 (And.intro hi3 (And.intro hi4 (And.intro hi5' hone))))))
      clear hfr hsrc hi1 hi2 hi3 hi4 hi5 hi5' hone
      go_upto_region 11 with (first
        | (refine wpList_makeMap (by rfl) 62 (by rfl) ?_)
        | (refine wpList_append_src wr (by rfl) (.const (.slice none 0 0)) (.tmp 40) 43 (by rfl) w.heap.size 33 pt pz 64 64 Tryd.underlying43 HA.out.2.1 HA.out.2.2.1 HA.out.2.2.2.1 HA.out.2.2.2.2.1 HA.out.2.2.2.2.2.1 (by decide) (.slice none 0 0) 0 [] (by rfl) (World.ownsRow_nil _ _ _ _) _ d.firm.length cap (d.firm.flatMap pgF) (by rfl) HA.out.1 (by intro e; cases e) HA.out.2.2.2.2.2.2 (by unfold maxLen; omega) (by omega) HR.out.2.size ?_; intro v' w2 q1 q2 q3; rw [Nat.zero_add, List.nil_append] at q1; obtain ⟨g2, k2, rfl⟩ := own_pos q1 HH.out.1.n1; have HV := Lib.hid (And.intro q1 q2); clear q1 q2 q3))
      have hw2 : Below w.heap.size w w2 := HR.out.2.trans ((Below.refl w.heap.size wr).grown HV.out.2 HR.out.2.size (by intro k hk; cases hk))
      have hbA : Below w2.heap.size w2 ((w2.alloc (.map #[] 0)).alloc (.cells #[.slice (some ⟨g2, 0, none⟩) d.firm.length k2, .slice none 0 0, .map (some w2.heap.size), .int .i64 (-1), .bool false] 65)) := ((Below.refl _ _).alloc (Nat.le_refl _) _).alloc (by simp) _
      have hmd := made_dk (w2 := w2) (B := w.heap.size) (g2 := g2) (k2 := k2) (firm := d.firm) ⟨HH.out.1.firm.1, HV.out.1⟩ hw2.size HH.out.1.n1 HH.out.1.n2
      have hkp : RowF w2 w.heap.size 4 1 boF (.slice (some ⟨w.heap.size, 0, none⟩) d.pend.length d.pend.length) (keptL d.pend.length pick) := HR.out.1.of_block (fun k hk => HV.out.2.block k (HR.out.1.lt k hk) (by intro e; cases e))
      generalize (w2.alloc (.map #[] 0)).alloc (.cells #[.slice (some ⟨g2, 0, none⟩) d.firm.length k2, .slice none 0 0, .map (some w2.heap.size), .int .i64 (-1), .bool false] 65) = w4 at hbA hmd ⊢
      generalize w2.heap.size + 1 = eb at hmd ⊢
      have hb4 : Below w.heap.size w w4 := hw2.trans (hbA.mono hw2.size)
      have HE := Lib.hid (And.intro hmd (And.intro (hkp.below hbA) hb4))
      generalize w2.heap.size = mb2 at *
      have c14 := (hb4.cell (p := ⟨db, 1, none⟩) (HH.out.1.blk.lt)).trans HH.out.1.c1
      clear hw2 hbA hmd hkp hb4 HV HA c1r c0r
      go_wp2
      go_loopw [50] (fun i wr => ∃ k : Nat, k ≤ d.pend.length ∧ i = .int .i64 k ∧ Hid (IsDk wr w.heap.size eb g2 mb2 k2 (.slice none 0 0) (d.half pick k) ∧ RowF wr w.heap.size 4 1 boF (.slice (some ⟨w.heap.size, 0, none⟩) d.pend.length d.pend.length) (keptL d.pend.length pick) ∧ Below w.heap.size w wr)) (fun i _ => d.pend.length - (intOf i).toNat)
      case atStart => exact ⟨0, by omega, rfl, HE.out.1, HE.out.2.1, HE.out.2.2⟩
      case round =>
        obtain ⟨k, hk, rfl, HL⟩ := hrel
        by_cases hlt : k < d.pend.length
        · have hx : d.pend[k]? = some d.pend[k] := List.getElem?_eq_getElem hlt
          generalize d.pend[k] = x at hx
          have hxl : x.2.length = 64 := by
            have := HH.out.1.cache.1 x (List.mem_of_getElem? hx)
            rw [wrF_length] at this
            omega
          have hx1 : x.1 < d.firm.length := HH.out.1.pend x (List.mem_of_getElem? hx)
          have hr0 := (HH.out.1.cache.below HL.out.2.2).range (k := k) (x := x) (by decide) hx
          obtain ⟨g, cc', e, hrg, _⟩ := hr0
          injection e with e1 e2 e3
          clear e2
          subst e1 e3
          have hcc1 : d.pend.length ≤ cc := by
            obtain ⟨g', cap', cur', e, _, _, h5, _⟩ := HH.out.1.cache.block (by intro e; rw [e] at hlt; simp at hlt)
            injection e with _ _ e
            subst e
            exact h5
          have hqk : (keptL d.pend.length pick)[k]? = some (pick.contains (k : Int)) := keptL_get hlt
          have HX := Lib.hid (And.intro hx (And.intro hxl (And.intro hx1 (And.intro hrg hqk))))
          clear hx hxl hx1 hrg hqk
          go_upto_region 14 with (first
            | (refine wpList_load_mid (by rfl) 67 (.tmp 53) (by rfl) g (k * 65) (by rfl) (wrF x) _ HX.out.2.2.2.1 Tryd.underlying67 rfl (wrF_info x HX.out.2.1) ?_)
            | (refine wpList_alloc_info (by rfl) 67 (by rfl) (.agg zeroWr) zeroWr (by kernel_rfl) rfl ?_)
            | (refine wpList_store_row (by rfl) 67 (.tmp 10) (.tmp 54) (by rfl) _ (wrF x).toArray (by rfl) (by rfl) 67 zeroWr (heap_alloc_new _ _) (wrF_info' x HX.out.2.1) (wr_sizes x HX.out.2.1) (wrF_all x) ?_))
          have hn : IsBlk ((wr.alloc (.cells zeroWr 67)).setRow wr.heap.size (wrF x).toArray) wr.heap.size (wrF x).toArray 67 := isBlk_setRow (IsBlk.new _ _ _) _
          have hnb : Below wr.heap.size wr ((wr.alloc (.cells zeroWr 67)).setRow wr.heap.size (wrF x).toArray) := below_setRow ((Below.refl _ _).alloc (Nat.le_refl _) _) _ (Nat.le_refl _) _
          generalize (wr.alloc (.cells zeroWr 67)).setRow wr.heap.size (wrF x).toArray = w3 at hn hnb ⊢
          have h3 := HL.out.1.below hnb
          have c03 := h3.c0
          rw [half_length] at c03
          have hk3 := HL.out.2.1.below hnb
          have hb3 : Below w.heap.size w w3 := HL.out.2.2.trans (hnb.mono HL.out.2.2.size)
          have hkc := (hk3.range (by decide) HX.out.2.2.2.2)
          obtain ⟨g9, c9, e, hrg9, _⟩ := hkc
          injection e with e elen ecap
          clear elen ecap
          injection e with e
          injection e with e
          subst e
          have hkb := hrg9 0 _ rfl
          rw [Nat.mul_one, Nat.add_zero] at hkb
          have HN := Lib.hid (And.intro hn (And.intro hnb (And.intro h3 (And.intro hk3 hb3))))
          have hx1 := HX.out.2.2.1
          have hcap : d.firm.length ≤ k2 := by
            obtain ⟨g', cap', cur', e, _, _, h5, _⟩ := h3.firm.block (by intro e; have := h3.n1; rw [e] at this; simp at this)
            injection e with _ _ e
            subst e
            rwa [half_length] at h5
          have ca := hn.cell 0 (v := .int .i64 ((x.1 : Nat) : Int)) rfl
          clear hnb h3 hk3 hb3 hrg9
          cases hpc : pick.contains (k : Int) with
          | false =>
            have hkb' : w3.cell? ⟨w.heap.size, k, none⟩ = some (.bool false) := by rw [hkb, hpc]
            have HF := Lib.hid (show IsDk w3 w.heap.size eb g2 mb2 k2 (.slice none 0 0) (d.half pick (k + 1)) by rw [half_out d pick HX.out.1 hpc]; exact HN.out.2.2.1)
            clear hkb hn ca c03 hpc
            go_wp2
            go_round
            case rel => exact ⟨k + 1, by omega, by go_num, HF.out, HN.out.2.2.2.1, HN.out.2.2.2.2⟩
            case measure => simp [intOf]; omega
          | true =>
            have hkb' : w3.cell? ⟨w.heap.size, k, none⟩ = some (.bool true) := by rw [hkb, hpc]
            have HP := Lib.hid hpc
            clear hkb hpc
            go_upto_region 15 with fail
            refine wp_region_held_drew (S := fun w' => w'.cell? ⟨eb, 0, none⟩ = some (.slice (some ⟨g2, 0, none⟩) d.firm.length k2) ∧ w'.cell? ⟨wr.heap.size, 0, none⟩ = some (.int .i64 ((x.1 : Nat) : Int)) ∧ IsBlk w' wr.heap.size (wrF x).toArray 67) (by kernel_rfl) ⟨c03, ca, hn⟩ (fun hHeld => ?_)
            clear hn
            refine wpAnyH_take (i := 0) (v := ?_) rfl (by kernel_rfl) (by kernel_rfl) (by kernel_rfl) (fun _ _ _ h => h) (Or.inl ⟨by rfl, ?_⟩) (by with_reducible assumption) ?_
            rotate_left
            · intro w hSw; (try dsimp only at hSw); (try go_split_ands); go_simp; (try with_reducible rfl)
            (try simp only [Act.put, List.getElem_toArray, List.getElem_cons_succ, List.getElem_cons_zero, List.setIfInBounds_toArray, List.set_cons_zero, List.set_cons_succ])
            refine wpAnyH_take (i := 1) (v := ?_) rfl (by kernel_rfl) (by kernel_rfl) (by kernel_rfl) (fun _ _ _ h => h) (Or.inl ⟨by rfl, ?_⟩) (by with_reducible assumption) ?_
            rotate_left
            · intro w hSw; (try dsimp only at hSw); (try go_split_ands); go_simp; (try with_reducible rfl)
            (try simp only [Act.put, List.getElem_toArray, List.getElem_cons_succ, List.getElem_cons_zero, List.setIfInBounds_toArray, List.set_cons_zero, List.set_cons_succ])
            refine wpAnyH_take (i := 2) (v := ?_) rfl (by kernel_rfl) (by kernel_rfl) (by kernel_rfl) (fun _ _ _ h => h) (Or.inl ⟨by rfl, ?_⟩) (by with_reducible assumption) ?_
            rotate_left
            · intro w hSw; (try dsimp only at hSw); (try go_split_ands); go_simp; (try with_reducible rfl)
            (try simp only [Act.put, List.getElem_toArray, List.getElem_cons_succ, List.getElem_cons_zero, List.setIfInBounds_toArray, List.set_cons_zero, List.set_cons_succ])
            refine wpAnyH_take (i := 3) (v := ?_) rfl (by kernel_rfl) (by kernel_rfl) (by kernel_rfl) (fun _ _ _ h => h) (Or.inl ⟨by rfl, ?_⟩) (by with_reducible assumption) ?_
            rotate_left
            · intro w hSw; (try dsimp only at hSw); (try go_split_ands); go_simp; (try with_reducible rfl)
            (try simp only [Act.put, List.getElem_toArray, List.getElem_cons_succ, List.getElem_cons_zero, List.setIfInBounds_toArray, List.set_cons_zero, List.set_cons_succ])
            refine wpAnyH_take (i := 4) (v := ?_) rfl (by kernel_rfl) (by kernel_rfl) (by kernel_rfl) (fun _ _ _ h => h) (Or.inl ⟨by rfl, ?_⟩) (by with_reducible assumption) ?_
            rotate_left
            · intro w hSw; (try dsimp only at hSw); (try go_split_ands); go_simp; (try with_reducible rfl)
            (try simp only [Act.put, List.getElem_toArray, List.getElem_cons_succ, List.getElem_cons_zero, List.setIfInBounds_toArray, List.set_cons_zero, List.set_cons_succ])
            refine wpAnyH_take (i := 5) (v := ?_) rfl (by kernel_rfl) (by kernel_rfl) (by kernel_rfl) (fun _ _ _ h => h) (Or.inl ⟨by rfl, ?_⟩) (by with_reducible assumption) ?_
            rotate_left
            · intro w hSw; (try dsimp only at hSw); (try go_split_ands); go_simp; (try with_reducible rfl)
            (try simp only [Act.put, List.getElem_toArray, List.getElem_cons_succ, List.getElem_cons_zero, List.setIfInBounds_toArray, List.set_cons_zero, List.set_cons_succ])
            refine wpAnyH_take (i := 6) (v := ?_) rfl (by kernel_rfl) (by kernel_rfl) (by kernel_rfl) (fun _ _ _ h => h) (Or.inl ⟨by rfl, ?_⟩) (by with_reducible assumption) ?_
            rotate_left
            · intro w hSw; (try dsimp only at hSw); (try go_split_ands); go_simp; (try with_reducible rfl)
            (try simp only [Act.put, List.getElem_toArray, List.getElem_cons_succ, List.getElem_cons_zero, List.setIfInBounds_toArray, List.set_cons_zero, List.set_cons_succ])
            refine wpAnyH_take (i := 7) (v := .agg (bv x.2).toArray) rfl (by kernel_rfl) (by kernel_rfl) (by kernel_rfl) (fun _ _ _ h => h) (yieldsIf_load_mid (by rfl) 33 (.tmp 65) (by rfl) wr.heap.size 1 (by rfl) (bv x.2) _ (fun w hS => range_wr hS.2.2) Tryd.underlying33 rfl (by rw [bv_length, HX.out.2.1]; kernel_rfl)) (by with_reducible assumption) ?_
            (try simp only [Act.put, List.getElem_toArray, List.getElem_cons_succ, List.getElem_cons_zero, List.setIfInBounds_toArray, List.set_cons_zero, List.set_cons_succ])
            refine wpAnyH_take (i := 8) (v := ?_) rfl (by kernel_rfl) (by kernel_rfl) (by kernel_rfl) (fun _ _ _ h => h) (Or.inl ⟨by rfl, ?_⟩) (by with_reducible assumption) ?_
            rotate_left
            · intro w hSw; (try dsimp only at hSw); (try go_split_ands); go_simp; (try with_reducible rfl)
            (try simp only [Act.put, List.getElem_toArray, List.getElem_cons_succ, List.getElem_cons_zero, List.setIfInBounds_toArray, List.set_cons_zero, List.set_cons_succ])
            refine wpAnyH_ready (rs := [9]) (by kernel_rfl) (by simp) ?_
            refine AllReadyH.cons rfl (fun K hK => ?_) AllReadyH.nil
            rw [if_pos (by rfl)]
            simp only [List.getElem_toArray, List.getElem_cons_succ, List.getElem_cons_zero]
            have hx0 : (d.half pick k).firm[x.1]? = some ((d.half pick k).firm.getD x.1 zeroPg) := by
              have : x.1 < (d.half pick k).firm.length := by rw [half_length]; exact hx1
              simp [List.getD, List.getElem?_eq_getElem this]
            have hth := (HN.out.2.2.1.below ((Below.refl _ _).drew)).firm.range (k := x.1) (by decide) hx0
            obtain ⟨g5, c5, e5, _, hth⟩ := hth
            injection e5 with e5 e5a e5b
            clear e5a e5b
            injection e5 with e5
            injection e5 with e5
            subst e5
            refine wp_store_mid 33 (.tmp 67) (.tmp 66) (by rfl) g2 (x.1 * 64) (bv x.2).toArray (by rfl) (by rfl) (by rw [List.size_toArray, bv_length, HX.out.2.1]; exact hth) (by rw [List.size_toArray, bv_length, HX.out.2.1]; kernel_rfl) (all_oneCell_toArray (bv_one _)) ?_
            have hbs : But (fun b => b = g2) w3.drew (w3.drew.setCells g2 (x.1 * 64) (bv x.2)) := (But.refl (fun b => b = g2) _).setCells (g := g2) rfl _ _
            have hnf : wr.heap.size ≠ g2 := by have := HL.out.1.fb_lt; omega
            refine hK.out _ _ ⟨(hbs.cell (cell_lt hHeld.1) (fun e => HL.out.1.fb_ne e.symm)).trans hHeld.1, (hbs.cell (cell_lt hHeld.2.1) hnf).trans hHeld.2.1, hbs.blk hHeld.2.2 hnf⟩ (fun hHeld => ?_)
            clear hK K hHeld
            (try simp only [Act.put, List.getElem_toArray, List.getElem_cons_succ, List.getElem_cons_zero, List.setIfInBounds_toArray, List.set_cons_zero, List.set_cons_succ])
            refine wpAnyH_done (by kernel_rfl) ?_ _
            have hfin : IsDk (w3.drew.setCells g2 (x.1 * 64) (bv x.2)) w.heap.size eb g2 mb2 k2 (.slice none 0 0) (d.half pick (k + 1)) := (HN.out.2.2.1.below ((Below.refl _ _).drew)).firm1 (by rw [half_length]; exact hx1) HX.out.2.1 (half_in d pick HX.out.1 HP.out)
            have hkn : RowF (w3.drew.setCells g2 (x.1 * 64) (bv x.2)) w.heap.size 4 1 boF (.slice (some ⟨w.heap.size, 0, none⟩) d.pend.length d.pend.length) (keptL d.pend.length pick) := by
              refine (HN.out.2.2.2.1.below ((Below.refl _ _).drew)).but hbs (fun q hq e => ?_)
              obtain ⟨c1', hc1⟩ := HN.out.2.2.2.1.tag q hq
              obtain ⟨c2', hc2⟩ := HN.out.2.2.1.firm.tag g2 rfl
              rw [e, hc2] at hc1
              injection hc1 with hc1
              injection hc1 with _ hc1
              exact absurd hc1 (by decide)
            have hbf : Below w.heap.size w (w3.drew.setCells g2 (x.1 * 64) (bv x.2)) := (HN.out.2.2.2.2.drew).trans (hbs.below (Nat.le_trans HN.out.2.2.2.2.size (Nat.le_refl _)) (fun q hq => by rw [hq]; exact HL.out.1.fb_base))
            have HF := Lib.hid (And.intro hfin (And.intro hkn hbf))
            clear hfin hkn hbf hbs hth
            go_wp2
            go_roundw
            case rel => exact ⟨k + 1, by omega, by go_num, HF.out⟩
            case measure => simp [intOf]; omega
        · obtain rfl : k = d.pend.length := by omega
          have hend : d.half pick d.pend.length = d.crash pick := by unfold DK.half DK.crash; rw [List.take_length]
          rw [hend] at HL
          clear hk hlt
          go_wp2
          go_ret
          exact ⟨_, g2, mb2, k2, rfl, HL.out.1, HL.out.2.2⟩
end
end Go.Proofs.YtjmjfgbpjecgfaaDoor
