/-
  ring: Add, where there is room.
-/
import Derived.Test.YtkabkehfckbhcaaDoorMgG
import Derived.Test.YtkabkehfckbhcaaDoorMgG
import Derived.Test.YtkabkehfckbhcaaDoorMgA
import Derived.Deep.DeepCutAuto
import Derived.Deep.CutBlock
import Derived.Deep.MidRow
import Derived.Deep.LoopGhost
namespace Go.Proofs.YtkabkehfckbhcaaDoor
set_option linter.unusedVariables false
set_option linter.unusedSimpArgs false
open Go.RowKit

/-- Sectors gathered, in a row of the call's own. -/
structure Gath (w wr : World) (v : Value) (L : List (List Nat)) : Prop where
  bel : Below w.heap.size w wr
  row : RowF wr w.heap.size 48 64 bv v L
theorem Gath.below {w wr w' : World} {v : Value} {L : List (List Nat)} (h : Gath w wr v L) (hb : Below wr.heap.size wr w') : Gath w w' v L := ⟨h.bel.trans (hb.mono h.bel.size), h.row.below hb⟩
theorem Gath.slice {w wr : World} {v : Value} {L : List (List Nat)} (h : Gath w wr v L) : ∃ a cap, v = .slice a L.length cap := h.row.slice
theorem Gath.slice' {w wr : World} {v : Value} {L : List (List Nat)} (h : Gath w wr v L) : ∃ a n cap, v = .slice a n cap ∧ Hid (n = L.length) := by
  obtain ⟨a, cap, e⟩ := h.row.slice
  exact ⟨a, _, cap, e, Lib.hid rfl⟩
/-- One more. -/
theorem Gath.more {w wr w4 w5 : World} {v v' : Value} {L : List (List Nat)} {p : List Nat} (h : Gath w wr v L) (hp : p.length = 64) (hb : Below wr.heap.size wr w4)
    (q1 : w5.ownsRow w.heap.size 48 64 v' (L.length + 1) (L.flatMap bv ++ bv p)) (q2 : w4.grownBy w5 v.ownBlock) : Gath w w5 v' (L ++ [p]) := by
  refine ⟨(h.bel.trans (hb.mono h.bel.size)).grown q2 (Nat.le_trans h.bel.size hb.size) (fun k hk => h.row.base_le k hk), fun x hx => ?_, ?_⟩
  · rcases List.mem_append.1 hx with hx | hx
    · exact h.row.1 x hx
    · simp at hx; subst hx; rw [bv_length, hp]
  · rw [List.length_append, List.flatMap_append]
    simpa using q1
theorem wpList_pg_slice {ops : Array Oper} {rest : List Oper} {o : Oper} {a : Act} {w : World} {Q : Exit → Act → World → Prop} (hgd : o.guard = none) (x : Operand) (ho : o.op = .buildSlice 41 1 #[(0, x)]) (p : List Nat) (hp : p.length = 64) (hx : a.eval x = pgV p)
    (h : wpList Tryd.prog ops Q rest (a.put o.dst (.slice (some ⟨w.heap.size, 0, none⟩) 1 1)) (w.alloc (.cells (nv .u8 p) 48))) : wpList Tryd.prog ops Q (o :: rest) a w :=
  wpList_plain hgd fun K hK => wp_slice_one 41 x ho _ _ hx (run_pg_slice w p hp) (hK _ _ h)
theorem wpList_app_pg {ops : Array Oper} {rest : List Oper} {o : Oper} {a : Act} {w wr : World} {Q : Exit → Act → World → Prop} {pa : Option Addr} {pc n : Nat} {L : List (List Nat)} {p : List Nat} (hgd : o.guard = none) (s x : Operand)
    (ho : o.op = .call { callee := .builtin .append, args := #[s, x], argTypes := #[41, 41] }) (HG : Gath w wr (.slice pa n pc) L) (hn : L.length = n) (hp : p.length = 64) (hs : a.eval s = .slice pa n pc) (hx : a.eval x = .slice (some ⟨wr.heap.size, 0, none⟩) 1 1) (hL : n ≤ 10000)
    (h : ∀ v' w', Gath w w' v' (L ++ [p]) → Below wr.heap.size wr w' ∨ True → wpList Tryd.prog ops Q rest (a.put o.dst v') w') : wpList Tryd.prog ops Q (o :: rest) a (wr.alloc (.cells (nv .u8 p) 48)) := by
  obtain ⟨it, z, hi1, hi2, hi3, hi4, hi5⟩ := pg_typ
  have hb : Below wr.heap.size wr (wr.alloc (.cells (nv .u8 p) 48)) := (Below.refl _ _).alloc (Nat.le_refl _) _
  have hown := (HG.row.below hb).2
  rw [hn] at hown
  refine wpList_append_src _ hgd s x 41 ho w.heap.size 48 it z 64 64 Tryd.underlying41 hi1 hi2 hi3 hi4 (by rw [hi5]; rfl) (by decide) _ n _ hs hown _ 1 1 (bv p) hx (pg_src wr p hp) (by intro e; cases e) (bv_one _) (by unfold maxLen; omega) (by omega) (Nat.le_trans HG.bel.size hb.size) fun v' w' q1 q2 q3 => ?_
  rw [← hn] at q1
  exact h v' w' (HG.more hp hb q1 q2) (.inr trivial)
/-- All of a row behind one that was made just now. -/
theorem wpList_app_all {ops : Array Oper} {rest : List Oper} {o : Oper} {a : Act} {w wr : World} {Q : Exit → Act → World → Prop} {pa : Option Addr} {pc n : Nat} {L : List (List Nat)} {p : List Nat} (hgd : o.guard = none) (s x : Operand)
    (ho : o.op = .call { callee := .builtin .append, args := #[s, x], argTypes := #[41, 41] }) (HG : Gath w wr (.slice pa n pc) L) (hn : L.length = n) (hn1 : 1 ≤ n) (hp : p.length = 64) (hx : a.eval x = .slice pa n pc) (hs : a.eval s = .slice (some ⟨wr.heap.size, 0, none⟩) 1 1) (hL : n ≤ 10000)
    (h : ∀ v' w', Gath w w' v' (p :: L) → Below wr.heap.size wr w' → wpList Tryd.prog ops Q rest (a.put o.dst v') w') : wpList Tryd.prog ops Q (o :: rest) a (wr.alloc (.cells (nv .u8 p) 48)) := by
  obtain ⟨it, z, hi1, hi2, hi3, hi4, hi5⟩ := pg_typ
  have hb : Below wr.heap.size wr (wr.alloc (.cells (nv .u8 p) 48)) := (Below.refl _ _).alloc (Nat.le_refl _) _
  have hbl : (bv p).length = 64 := by rw [bv_length, hp]
  have hown : (wr.alloc (.cells (nv .u8 p) 48)).ownsRow w.heap.size 48 64 (.slice (some ⟨wr.heap.size, 0, none⟩) 1 1) 1 (bv p) := by
    refine ⟨by rw [hbl], .inr ⟨wr.heap.size, 1, nv .u8 p, rfl, HG.bel.size, IsBlk.new wr _ _, Nat.le_refl _, by decide, by rw [nv_size, hp], ?_⟩⟩
    show (bv p).take (1 * 64) = bv p
    rw [List.take_of_length_le (by omega)]
  have hrow := HG.row.below hb
  obtain ⟨g, c', cur, e, _⟩ := hrow.block (by intro e; rw [e] at hn; simp at hn; omega)
  injection e with e1 e2 e3
  subst e1
  have hsrc := hrow.src (by decide)
  rw [hn] at hsrc
  refine wpList_append_src _ hgd s x 41 ho w.heap.size 48 it z 64 64 Tryd.underlying41 hi1 hi2 hi3 hi4 (by rw [hi5]; rfl) (by decide) _ 1 _ hs hown _ n pc (L.flatMap bv) hx hsrc (by intro e; cases e) (fun u hu => by
      obtain ⟨q, _, hq⟩ := List.mem_flatMap.1 hu
      exact bv_one _ u hq) (by unfold maxLen; omega) (by omega) (Nat.le_trans HG.bel.size hb.size) fun v' w' q1 q2 q3 => ?_
  have hb' : Below wr.heap.size wr w' := hb.grown q2 hb.size (fun k hk => by simp [Value.ownBlock] at hk; omega)
  refine h v' w' ⟨HG.bel.trans (hb'.mono HG.bel.size), fun q hq => ?_, ?_⟩ hb'
  · rcases List.mem_cons.1 hq with rfl | hq
    · exact hbl
    · exact HG.row.1 q hq
  · rw [List.length_cons, List.flatMap_cons, Nat.add_comm, hn]
    exact q1
theorem idx_take (l : List CH) (q M : Nat) (hM : M = min 16 (l.length - 16 * q)) : padPg (atBs ((l.drop (16 * q)).take M)) = idxPg l q := by
  unfold idxPg
  have e : (l.drop (16 * q)).take M = (l.drop (16 * q)).take 16 := by
    by_cases h : 16 ≤ l.length - 16 * q
    · rw [hM, Nat.min_eq_left h]
    · rw [hM, Nat.min_eq_right (by omega), List.take_of_length_le (by rw [List.length_drop]; exact Nat.le_refl _), List.take_of_length_le (by rw [List.length_drop]; omega)]
  rw [e]
  rfl
theorem idx_put {l : List CH} {q j : Nat} {c : CH} (hc : l[16 * q + j]? = some c) (hj : j < 16) : putL (padPg (atBs ((l.drop (16 * q)).take j))) (4 * j) (leB 4 (c.1 % 18446744073709551616).toNat) = padPg (atBs ((l.drop (16 * q)).take (j + 1))) := by
  have hlt : 16 * q + j < l.length := (List.getElem?_eq_some_iff.1 hc).1
  have hl : (atBs ((l.drop (16 * q)).take j)).length = 4 * j := by
    unfold atBs
    rw [idx_length, List.length_take, List.length_drop]
    omega
  have h := padPg_put (X := atBs ((l.drop (16 * q)).take j)) (Y := atB c.1) (by rw [hl, atB_length]; omega)
  rw [hl] at h
  rw [idx_step hc, atB_u64, h]
theorem sum_below {w w' : World} {base hb : Nat} {v : Value} {m : List Nat} (hi : IsSum w base hb v m) (h : But (HashS hb v) w w') (hB : base ≤ w.heap.size) : Below base w w' :=
  h.below hB (fun k hk => by
    rcases hk with rfl | hk
    · exact hi.hfb
    · exact hi.own.base_le k hk)
/-- copy of a digest into a page, from 10 on. -/
theorem step_copy_head {ops : Array Oper} {o : Oper} {a : Act} {w : World} {K : Act → World → Prop} {Q : Exit → Act → World → Prop} {E : Prop} (hgd : o.guard = none) (d s : Operand)
    (ho : o.op = .call { callee := .builtin .copy, args := #[d, s], argTypes := #[91, 91] }) (hd sb : Nat)
    (hdv : a.eval d = .slice (some ⟨hd, 10, none⟩) 54 54) (hsv : a.eval s = .slice (some ⟨sb, 0, none⟩) 32 32) (p D : List Nat) (hp : IsBlk w hd (nv .u8 p) 48) (hpl : p.length = 64) (hD : IsBlk w sb (nv .u8 D) 23) (hDl : D.length = 32)
    (h : ∀ w', IsBlk w' hd (nv .u8 (p.take 10 ++ (D ++ p.drop 42))) 48 → But (fun k => k = hd) w w' → K (a.put o.dst (.int .i64 32)) w') : if Region.wanted o (yielded ops a.tmps) = true then Oper.wp Tryd.prog o a w K Q else E := by
  rw [if_pos (by simp [Region.wanted, hgd])]
  have hbl : (bv D).length = 32 := by rw [bv_length, hDl]
  have hrun := run_copy_row (P := Tryd.prog) w 91 91 o.type 5 hd 10 54 54 ⟨sb, 0, none⟩ 32 32 (nv .u8 p) 48 (bv D)
    (by kernel_rfl) (by kernel_rfl) hp (by rw [hbl]; rfl) (fun j v hj => by
      rw [Addr.add_mid, Nat.zero_add]
      refine hD.cell j ?_
      show (bv D).toArray[j]? = some v
      rw [List.getElem?_toArray]
      exact hj) (by rw [hbl, nv_size, hpl]; decide) (bv_one D)
  have hnew : ((nv .u8 p).toList.take 10 ++ bv D ++ (nv .u8 p).toList.drop (10 + (bv D).length)).toArray = nv .u8 (p.take 10 ++ D ++ p.drop 42) := by
    rw [hbl]
    simp [nv, bv, List.map_take, List.map_drop]
  rw [hnew, hbl, List.append_assoc] at hrun
  unfold Oper.wp
  simp [execOp, ho, resolve, invoke, builtin, hdv, hsv, hrun, Result.andThen]
  exact h _ (isBlk_setRow hp _) (setRow_but _ _ _)
theorem head_copy (last : List Nat) (num : Nat) (l : List CH) : (padPg (headB num l.length)).take 10 ++ (recSum last num l ++ (padPg (headB num l.length)).drop 42) = headPg last num l := by
  rw [← List.append_assoc]
  have hD : (recSum last num l).length = 32 := digest_length _
  have h1 : (headB num l.length).length = 10 := headB_length _ _
  unfold headPg padPg
  rw [List.length_append, h1, hD, List.take_append_of_le_length (by omega), List.take_of_length_le (by omega), List.drop_append, h1, List.drop_eq_nil_of_le (by omega), List.nil_append, List.drop_replicate]
theorem isBytes_range {w : World} {b o : Nat} {l : List Nat} (h : w.rangeAt b o (bv l)) (hl : ∀ c ∈ l, c < 256) : IsBytes w (some ⟨b, o, none⟩) l :=
  ⟨hl, .inr ⟨b, o, rfl, fun i hi => h i _ (bv_get l i hi)⟩⟩
theorem isBytes_blk {w : World} {b : Nat} {l m : List Nat} {t : TypeId} (h : IsBlk w b (nv .u8 l) t) (o : Nat) (hl : ∀ c ∈ m, c < 256) (hm : ∀ i, i < m.length → l[o + i]? = m[i]?) : IsBytes w (some ⟨b, o, none⟩) m := by
  refine isBytes_range (fun j v hj => h.cell (o + j) ?_) hl
  have hjl : j < m.length := by rw [← bv_length m]; exact (List.getElem?_eq_some_iff.1 hj).1
  show (bv l).toArray[o + j]? = _
  rw [List.getElem?_toArray, ← hj]
  unfold bv
  simp only [List.getElem?_map]
  rw [hm j hjl]
def zeroCh : Array Value := (chF (0, zeroPg)).toArray
theorem ch_info (c : CH) (h : c.2.length = 64) : (Tryd.prog.info? 79).map (·.size) = some (chF c).toArray.size := by
  rw [List.size_toArray, chF_length c h]; kernel_rfl
theorem ch_info' (c : CH) (h : c.2.length = 64) : (Tryd.prog.info? 79).map (·.size) = some (chF c).length := by
  rw [chF_length c h]; kernel_rfl
theorem ch_sizes (c : CH) (h : c.2.length = 64) : zeroCh.size = (chF c).toArray.size := by
  rw [zeroCh, List.size_toArray, List.size_toArray, chF_length c h]; rfl
theorem ch_var (w : World) (c : CH) (t : TypeId) : IsBlk ((w.alloc (.cells zeroCh t)).setRow w.heap.size (chF c).toArray) w.heap.size (chF c).toArray t ∧ Below w.heap.size w ((w.alloc (.cells zeroCh t)).setRow w.heap.size (chF c).toArray) :=
  ⟨isBlk_setRow (IsBlk.new _ _ _) _, below_setRow ((Below.refl _ _).alloc (Nat.le_refl _) _) _ (Nat.le_refl _) _⟩
theorem sum_var (w : World) (p : List Nat) : IsBlk ((w.alloc (.cells (nv .u8 (List.replicate 32 0)) 23)).setRow w.heap.size (nv .u8 p)) w.heap.size (nv .u8 p) 23 ∧ Below w.heap.size w ((w.alloc (.cells (nv .u8 (List.replicate 32 0)) 23)).setRow w.heap.size (nv .u8 p)) :=
  ⟨isBlk_setRow (IsBlk.new _ _ _) _, below_setRow ((Below.refl _ _).alloc (Nat.le_refl _) _) _ (Nat.le_refl _) _⟩
theorem what_step {l : List CH} {j : Nat} {c : CH} (h : l[j]? = some c) : (l.take (j + 1)).map (·.2) = (l.take j).map (·.2) ++ [c.2] := by
  rw [List.take_add_one, h]
  simp
/-- What is fixed while Add gathers. -/
structure AddH (w : World) (rg db : Nat) (s : RS) (n kk : Nat) (d : DK) (N : Nat → Prop) (B : Nat) (ca : Option Addr) (l : List CH) : Prop where
  isrg : IsRg 100 w rg db s
  ok : RSok s n
  dk : DkN N B w db d
  on : OnB n kk d
  kk : kk ≤ 100000
  chs : IsChs w ca l
  k1 : 1 ≤ l.length
  k2 : l.length ≤ 60
  fit : takes l.length ≤ s.n - s.used
  nrg : N rg
  nlt : ∀ k, N k → k < w.heap.size
  hB : B ≤ w.heap.size
  hrg : B ≤ rg

set_option maxRecDepth 100000 in
set_option maxHeartbeats 40000000 in
theorem add_ok {w : World} {rg db : Nat} {s : RS} {n kk : Nat} {d : DK} {N : Nat → Prop} {B : Nat} {ca : Option Addr} {cc : Nat} {l : List CH} (H : AddH w rg db s n kk d N B ca l) : Calls Tryd.prog 24 #[.pointer (some ⟨rg, 0, none⟩), .slice ca l.length cc] w fun e w' => e = .returned .nilIface ∧ IsRg 100 w' rg db (s.behind l.length (recSum s.last s.num l)) ∧ DkN N B w' db (putAll s (recPgs s.last s.num l) 0 d) ∧ But (fun k => ¬ N k ∨ k = rg) w w' ∧ Below B w w' := by
  have hfit := fits_any H.isrg H.ok l.length (by have := H.k2; omega)
  have hfe : s.fits l.length = true := by
    unfold RS.fits
    simp only [H.k1, H.k2, H.fit, decide_true, Bool.and_self]
  rw [hfe] at hfit
  have k1 : ¬ ((l.length : Int) < 1) := by have := H.k1; omega
  have k2 : ¬ ((60 : Int) < (l.length : Int)) := by have := H.k2; omega
  have HH := Lib.hid H
  clear H hfe
  go_enter Tryd.func24, Tryd.ntmps24
  go_upto_region 9 with (go_at_call 22; (with_reducible refine hfit.mono ?_); rintro e w' ⟨rfl, m, rfl⟩)
  have hb0 : Below w.heap.size w (w.drewN m) := drawn_below (Below.refl _ _) m
  have HG := Lib.hid (Gath.mk hb0 (RowF.nil (w.drewN m) w.heap.size 48 64 bv))
  generalize w.drewN m = w1 at HG ⊢
  clear hfit hb0
  go_upto_block 0 with fail
  go_cut [6, 7] (fun v _ wx => Hid (Gath w wx v ((List.range ((l.length + 15) / 16)).map (idxPg l))))
  case first =>
    go_wp2_with fail
    go_loopw [6, 7] (fun v i wr => ∃ q : Nat, q ≤ (l.length + 15) / 16 ∧ i = .int .i64 (16 * (q : Int)) ∧ Hid (Gath w wr v ((List.range q).map (idxPg l)))) (fun _ i _ => l.length + 16 - (intOf i).toNat)
    case atStart => exact ⟨0, by omega, rfl, HG.out⟩
    case round =>
      obtain ⟨q, hq, rfl, HR⟩ := hrel
      have hk60 := HH.out.k2
      obtain ⟨pa, pc, e⟩ := HR.out.slice
      rw [List.length_map, List.length_range] at e
      subst e
      by_cases hlt : 16 * q < l.length
      · have i1 : (16 * (q : Int)) < (l.length : Int) := by omega
        -- {
        go_upto_region 13 with (refine wpList_alloc_info (by rfl) 48 (by rfl) (.agg (nv .u8 zeroPg)) (nv .u8 zeroPg) (by kernel_rfl) rfl ?_)
        change Code.wp _ _ _ _ (wr.alloc (.cells (nv .u8 zeroPg) 48))
        have hn : IsBlk (wr.alloc (.cells (nv .u8 zeroPg) 48)) wr.heap.size (nv .u8 zeroPg) 48 := IsBlk.new _ _ _
        have hb : Below wr.heap.size wr (wr.alloc (.cells (nv .u8 zeroPg) 48)) := (Below.refl _ _).alloc (Nat.le_refl _) _
        generalize wr.alloc (.cells (nv .u8 zeroPg) 48) = w3 at hn hb ⊢
        have H3 := Lib.hid (And.intro hn (And.intro (HR.out.below hb) HR.out.bel.size))
        have HPB : Hid (∀ k, (Value.slice pa q pc).ownBlock = some k → k ≠ wr.heap.size) := Lib.hid (fun k hk e => by have := HR.out.row.lt k hk; omega)
        generalize hpb : wr.heap.size = pb at *
        clear hn hb hpb
        (try simp only [Act.put, List.getElem_toArray, List.getElem_cons_succ, List.getElem_cons_zero, List.setIfInBounds_toArray, List.set_cons_zero, List.set_cons_succ])
        go_cut [48, 49] (fun a i wx => ∃ M : Nat, a = .int .i64 M ∧ i = .int .i64 0 ∧ Hid (M = min 16 (l.length - 16 * q) ∧ IsBlk wx pb (nv .u8 zeroPg) 48 ∧ Gath w wx (.slice pa q pc) ((List.range q).map (idxPg l))))
        case first =>
          by_cases hM : 16 ≤ l.length - 16 * q
          · have i5 : (16 : Int) ≤ (l.length : Int) - (16 * (q : Int)) := by omega
            go_wp2_with fail
            all_goals first
              | (go_meet; exact ⟨16, rfl, rfl, by rw [Nat.min_eq_left hM], H3.out.1, H3.out.2.1⟩)
              | (exfalso; omega)
              | (go_meet; exact ⟨16, by congr 1; omega, rfl, by rw [Nat.min_eq_left hM], H3.out.1, H3.out.2.1⟩)
          · have i5 : ¬ (16 : Int) ≤ (l.length : Int) - (16 * (q : Int)) := by omega
            have i6 : (l.length : Int) - (16 * (q : Int)) < 16 := by omega
            have hm : min 16 (l.length - 16 * q) = l.length - 16 * q := Nat.min_eq_right (by omega)
            go_wp2_with fail
            all_goals first
              | (go_meet; exact ⟨l.length - 16 * q, by congr 1; omega, rfl, hm.symm, H3.out.1, H3.out.2.1⟩)
              | (exfalso; omega)
        case rest =>
          obtain ⟨M, rfl, rfl, HC⟩ := hcut
          obtain ⟨wx, hwx⟩ : ∃ w : World, w = wc := ⟨_, rfl⟩
          subst hwx
          have hM16 : M ≤ 16 := by have := HC.out.1; omega
          go_wp2_with fail
          go_loopw [49] (fun i wr2 => ∃ j : Nat, j ≤ M ∧ i = .int .i64 j ∧ Hid (IsBlk wr2 pb (nv .u8 (padPg (atBs ((l.drop (16 * q)).take j)))) 48 ∧ But (fun x => x = pb) wx wr2)) (fun i _ => M - (intOf i).toNat)
          case atStart => exact ⟨0, by omega, rfl, HC.out.2.1, But.refl _ _⟩
          case round =>
            obtain ⟨j, hj, rfl, HL⟩ := hrel
            have hbel : Below w.heap.size w wr := HC.out.2.2.bel.trans (HL.out.2.below HC.out.2.2.bel.size (fun x hx => by rw [hx]; exact H3.out.2.2))
            by_cases hjl : j < M
            · have hI : 16 * q + j < l.length := by have := HC.out.1; omega
              obtain ⟨c, hc⟩ : ∃ c, l[16 * q + j]? = some c := ⟨_, List.getElem?_eq_getElem hI⟩
              obtain ⟨b, off, rfl, hbl, hrg⟩ := (HH.out.chs.below hbel).at_.resolve_left (by rintro rfl; simp at hI)
              have hat := range_chAt (hrg _ c hc)
              have hput := put_any HL.out.1 (padPg_length _ (by unfold atBs; rw [idx_length, List.length_take]; omega)) (4 * j) 4 (c.1 % 18446744073709551616).toNat (by omega) (by decide) (by omega)
              have e1 : ((4 * j : Nat) : Int) = 4 * (j : Int) := by omega
              have e3 : (((c.1 % 18446744073709551616).toNat : Nat) : Int) = IntKind.u64.wrap c.1 := by rw [IntKind.wrap_u64]; omega
              rw [e1, e3, idx_put hc (by omega), show ((4 : Nat) : Int) = 4 from rfl] at hput
              have j1 : (16 * (q : Int)) + (j : Int) < (l.length : Int) := by omega
              have j2 : (0 : Int) ≤ (16 * (q : Int)) + (j : Int) := by omega
              have j3 : (j : Int) < 16 := by omega
              have HB := Lib.hid hbel
              clear hrg e1 e3 hbel hbl
              go_wp2_with (go_at_call 44; (with_reducible refine hput.mono ?_); rintro e w5 ⟨⟨v5, rfl⟩, h5, hb5⟩; have H5 := Lib.hid (And.intro h5 (HL.out.2.trans hb5)); clear h5 hb5)
              go_round
              case rel => exact ⟨j + 1, by omega, by go_num, H5.out⟩
              case measure => simp [intOf]; omega
            · obtain rfl : j = M := by omega
              have hg2 : Gath w wr (.slice pa q pc) ((List.range q).map (idxPg l)) := ⟨hbel, HC.out.2.2.row.but HL.out.2 (fun k hk e => HPB.out k hk e)⟩
              have hpg := HL.out.1
              rw [idx_take l q j HC.out.1] at hpg
              have HP := Lib.hid (And.intro hpg hg2)
              have hpl := idxPg_length l q
              have HPL := Lib.hid hpl
              clear hpg hg2 hbel hpl
              go_wp2_with (first
                | (refine wpList_load_row (by rfl) 48 (.tmp 8) (by rfl) pb (by rfl) 48 (nv .u8 (idxPg l q)) (0, 0) _ HP.out.1 Tryd.underlying48 rfl (info_pg _ HPL.out) ?_)
                | (refine wpList_pg_slice (by rfl) (.tmp 65) (by rfl) (idxPg l q) HPL.out (by rfl) ?_)
                | (refine wpList_app_pg (by rfl) (.tmp 64) (.tmp 66) (by rfl) HP.out.2 (by simp) HPL.out (by rfl) (by rfl) (by omega) fun v' w7 q1 _ => ?_; have H7 := Lib.hid q1; clear q1))
              go_round
              case rel => exact ⟨q + 1, by omega, by congr 1 <;> omega, by rw [List.range_succ, List.map_append]; exact H7.out⟩
              case measure => simp [intOf]; omega
        -- }
      · have hqe : Hid (q = (l.length + 15) / 16) := Lib.hid (by omega)
        have i1 : ¬ (16 * (q : Int)) < (l.length : Int) := by omega
        go_wp2_with fail
        go_meet
        rw [← hqe.out]
        exact HR.out
  case rest =>
    have HA := hcut
    clear HG
    obtain ⟨w2, hw2⟩ : ∃ w : World, w = wc := ⟨_, rfl⟩
    subst hw2
    obtain ⟨pa, pn, pc, e, HN⟩ := HA.out.slice'
    subst e
    have hk60 := HH.out.k2
    generalize hIL : ((List.range ((l.length + 15) / 16)).map (idxPg l)) = IL at *
    have hil : IL.length ≤ 10 := by rw [← hIL]; simp; omega
    go_upto_block 4 with fail
    go_cut [6, 70] (fun v _ wx => Hid (Gath w wx v (IL ++ l.map (·.2))))
    case first =>
      -- {
      go_wp2_with fail
      go_loopw [6, 70] (fun v i wr => ∃ j : Nat, j ≤ l.length ∧ i = .int .i64 j ∧ Hid (Gath w wr v (IL ++ (l.take j).map (·.2)))) (fun _ i _ => l.length - (intOf i).toNat)
      case atStart => exact ⟨0, by omega, rfl, by simp only [List.take_zero, List.map_nil, List.append_nil]; exact HA.out⟩
      case round =>
        obtain ⟨j, hj, rfl, HR⟩ := hrel
        obtain ⟨pa, pn, pc, e, HN⟩ := HR.out.slice'
        subst e
        by_cases hjl : j < l.length
        · obtain ⟨c, hc⟩ : ∃ c, l[j]? = some c := ⟨_, List.getElem?_eq_getElem hjl⟩
          obtain ⟨b, off, rfl, hbl, hrg⟩ := (HH.out.chs.below HR.out.bel).at_.resolve_left (by rintro rfl; simp at hjl)
          have hcok := HH.out.chs.ok c (List.mem_of_getElem? hc)
          have HC := Lib.hid (And.intro (hrg j c hc) (And.intro hcok.len hc))
          clear hrg hbl hcok hc
          have j1 : (j : Int) < (l.length : Int) := by omega
          go_upto_region 22 with (first
            | (refine wpList_load_mid (by rfl) 79 (.tmp 72) (by rfl) b (off + j * 65) (by rfl) (chF c) _ HC.out.1 Tryd.underlying79 rfl (ch_info' c HC.out.2.1) ?_)
            | (refine wpList_alloc_info (by rfl) 79 (by rfl) (.agg zeroCh) zeroCh (by kernel_rfl) rfl ?_)
            | (refine wpList_store_row (by rfl) 79 (.tmp 11) (.tmp 73) (by rfl) _ (chF c).toArray (by rfl) (by rfl) 79 zeroCh (heap_alloc_new _ _) (ch_info c HC.out.2.1) (ch_sizes c HC.out.2.1) (all_oneCell_toArray (chF_one c)) ?_))
          have hv := ch_var wr c 79
          generalize (wr.alloc (.cells zeroCh 79)).setRow wr.heap.size (chF c).toArray = w4 at hv ⊢
          have hrw : w4.rangeAt wr.heap.size 1 (bv c.2) := isBlk_range hv.1 1 (fun k v hv => by rw [Nat.add_comm]; exact hv)
          have H4 := Lib.hid (And.intro hrw (HR.out.below hv.2))
          clear hv hrw
          generalize wr.heap.size = cb at *
          have hlen : pn ≤ 10000 := by rw [HN.out, List.length_append, List.length_map, List.length_take]; omega
          have HLN := Lib.hid hlen
          clear hlen
          go_wp2_with (first
            | (refine wpList_load_mid (by rfl) 48 (.tmp 75) (by rfl) cb 1 (by rfl) (bv c.2) _ H4.out.1 Tryd.underlying48 rfl (by rw [bv_length, HC.out.2.1]; kernel_rfl) ?_)
            | (refine wpList_pg_slice (by rfl) (.tmp 76) (by rfl) c.2 HC.out.2.1 (by rfl) ?_)
            | (refine wpList_app_pg (by rfl) (.tmp 74) (.tmp 77) (by rfl) H4.out.2 HN.out.symm HC.out.2.1 (by rfl) (by rfl) HLN.out fun v' w7 q1 _ => ?_; have H7 := Lib.hid q1; clear q1))
          go_round
          case rel => exact ⟨j + 1, by omega, by go_num, by rw [what_step HC.out.2.2, ← List.append_assoc]; exact H7.out⟩
          case measure => simp [intOf]; omega
        · obtain rfl : j = l.length := by omega
          have hfin := HR.out
          rw [List.take_length] at hfin
          have HF := Lib.hid hfin
          clear hfin
          go_wp2_with fail
          go_meet
          exact HF.out
      -- }
    case rest =>
      have HB := hcut
      clear HA
      obtain ⟨w3, hw3⟩ : ∃ w : World, w = wc := ⟨_, rfl⟩
      subst hw3
      rw [← hIL] at HB
      clear hIL hil
      obtain ⟨pa, pn, pc, e, HN⟩ := HB.out.slice'
      subst e
      change Hid (Gath w w3 _ (bodyPgs l)) at HB
      change Hid (pn = (bodyPgs l).length) at HN
      -- {
      have hbl : (bodyPgs l).length ≤ 100 := by have := bodyPgs_length l; unfold takes at this; omega
      have hpn : pn ≤ 100 := by rw [HN.out]; exact hbl
      go_upto_region 25 with (refine wpList_alloc_info (by rfl) 48 (by rfl) (.agg (nv .u8 zeroPg)) (nv .u8 zeroPg) (by kernel_rfl) rfl ?_)
      change Code.wp _ _ _ _ (w3.alloc (.cells (nv .u8 zeroPg) 48))
      have hn : IsBlk (w3.alloc (.cells (nv .u8 zeroPg) 48)) w3.heap.size (nv .u8 zeroPg) 48 := IsBlk.new _ _ _
      have hb : Below w3.heap.size w3 (w3.alloc (.cells (nv .u8 zeroPg) 48)) := (Below.refl _ _).alloc (Nat.le_refl _) _
      have HPB : Hid (∀ k, (Value.slice pa pn pc).ownBlock = some k → k ≠ w3.heap.size) := Lib.hid (fun k hk e => by have := HB.out.row.lt k hk; omega)
      have hsz := HB.out.bel.size
      generalize w3.alloc (.cells (nv .u8 zeroPg) 48) = w4 at hn hb ⊢
      have hg4 := HB.out.below hb
      generalize w3.heap.size = hd at *
      have z0 := hn.cell 0 (v := .int .u8 0) rfl
      have f0 := hn.fz 0
      have n1 := hn.set 0 (.int .u8 84)
      have z9 := n1.cell 9 (v := .int .u8 0) rfl
      have f9 := n1.fz 9
      have hwk : IntKind.u8.wrap (l.length : Int) = (l.length : Int) := by rw [IntKind.wrap_u8]; omega
      have n2 : IsBlk ((w4.setCell ⟨hd, 0, none⟩ (.int .u8 84)).setCell ⟨hd, 9, none⟩ (.int .u8 (l.length : Int))) hd (nv .u8 ((zeroPg.set 0 84).set 9 l.length)) 48 := by
        have h1 := n1.set 9 (.int .u8 ((l.length : Nat) : Int))
        rw [show ((84 : Int)) = ((84 : Nat) : Int) from rfl, nv_set, nv_set] at h1
        exact h1
      have hb2 : But (fun k => k = hd) w4 ((w4.setCell ⟨hd, 0, none⟩ (.int .u8 84)).setCell ⟨hd, 9, none⟩ (.int .u8 (l.length : Int))) := ((But.refl (fun k => k = hd) w4).setCell (p := ⟨hd, 0, none⟩) rfl _).setCell (p := ⟨hd, 9, none⟩) rfl _
      have H4 := Lib.hid (And.intro n2 (And.intro hb2 (And.intro hg4 hsz)))
      clear hn n1 n2 hb hb2 hg4 hsz
      go_upto_region 26 with fail
      generalize (w4.setCell ⟨hd, 0, none⟩ (.int .u8 84)).setCell ⟨hd, 9, none⟩ (.int .u8 (l.length : Int)) = w5 at H4 ⊢
      clear z0 f0 z9 f9 hwk
      have hbel5 : Below w.heap.size w w5 := H4.out.2.2.1.bel.trans (H4.out.2.1.below H4.out.2.2.1.bel.size (fun k hk => by rw [hk]; exact H4.out.2.2.2))
      have hg5 : Gath w w5 (.slice pa pn pc) (bodyPgs l) := ⟨hbel5, H4.out.2.2.1.row.but H4.out.2.1 (fun k hk e => HPB.out k hk e)⟩
      have c4 := (HH.out.isrg.below hbel5).c4
      have hput := put_any H4.out.1 (by simp [zeroPg]) 1 8 s.num (by decide) (by decide) HH.out.ok.num
      rw [headB_put _ _ (by omega), show ((1 : Nat) : Int) = 1 from rfl, show ((8 : Nat) : Int) = 8 from rfl] at hput
      have H5 := Lib.hid (And.intro hg5 H4.out.2.2.2)
      clear hbel5 hg5
      go_upto_region 27 with (go_at_call 44; (with_reducible refine hput.mono ?_); rintro e w6 ⟨⟨v6, rfl⟩, h6, hb6⟩; have H6 := Lib.hid (And.intro h6 (Gath.mk (H5.out.1.bel.trans (hb6.below H5.out.1.bel.size (fun k hk => by rw [hk]; exact H5.out.2))) (H5.out.1.row.but hb6 (fun k hk e => HPB.out k hk e)))); clear h6 hb6)
      clear hput c4 H4
      go_upto_region 28 with (go_at_call 45; (with_reducible refine (newS _).mono ?_); rintro e w7 ⟨rfl, hb7, hs7, hi7⟩; have H7 := Lib.hid (And.intro hb7 (And.intro hs7 hi7)); clear hb7 hs7 hi7)
      have hrg7 := HH.out.isrg.below (H6.out.2.bel.trans (H7.out.1.mono H6.out.2.bel.size))
      have hbl7 := isBytes_range hrg7.last HH.out.ok.byte
      have hw1 := writeS (k := 32) (c := 32) H7.out.2.2 HH.out.ok.len.symm hbl7 (by intro e; cases e) (by decide) (Nat.le_of_lt H7.out.2.1) (by intro x hx _; cases hx; exact Nat.ne_of_lt (Nat.lt_of_lt_of_le HH.out.isrg.lt H6.out.2.bel.size))
      rw [List.nil_append] at hw1
      go_upto_region 29 with (go_at_call 46; (with_reducible refine hw1.mono ?_); rintro e w8 ⟨rfl, v8, hi8, hb8, -⟩; have H8 := Lib.hid (And.intro hi8 (H7.out.1.trans (sum_below H7.out.2.2 hb8 (Nat.le_of_lt H7.out.2.1)))); clear hi8 hb8)
      clear hw1 hbl7 hrg7
      have hh8 := H6.out.1.below H8.out.2 H6.out.1.lt
      have hbl8 : IsBytes w8 (some ⟨hd, 0, none⟩) (headB s.num l.length) := isBytes_blk hh8 0 (headB_byte _ _) (fun i hi => by rw [Nat.zero_add, padPg_get, if_pos hi])
      have hw2 := writeS (k := 10) (c := 64) H8.out.1 (headB_length _ _).symm hbl8 (by intro e; cases e) (by decide) H8.out.2.size (by intro x hx _; cases hx; exact Nat.ne_of_lt H6.out.1.lt)
      go_upto_region 30 with (go_at_call 46; (with_reducible refine hw2.mono ?_); rintro e w9 ⟨rfl, v9, hi9, hb9, -⟩; have H9 := Lib.hid (And.intro hi9 (H8.out.2.trans (sum_below H8.out.1 hb9 H8.out.2.size))); clear hi9 hb9)
      clear hw2 hbl8 hh8 H8 H7
      go_upto_block 6 with fail
      go_cut [103] (fun _ wx => ∃ v, Hid (IsSum wx w6.heap.size w6.heap.size v (sumIn s.last s.num l) ∧ Below w6.heap.size w6 wx))
      case first =>
        -- <
        go_wp2_with fail
        go_loopw [103] (fun i wr => ∃ j : Nat, ∃ v, j ≤ pn ∧ i = .int .i64 j ∧ Hid (IsSum wr w6.heap.size w6.heap.size v (s.last ++ headB s.num l.length ++ ((bodyPgs l).take j).flatten) ∧ Below w6.heap.size w6 wr)) (fun i _ => pn - (intOf i).toNat)
        case atStart => exact ⟨0, v9, by omega, rfl, by simp only [List.take_zero, List.flatten_nil, List.append_nil]; exact H9.out.1, H9.out.2⟩
        case round =>
          obtain ⟨j, v, hj, rfl, HR⟩ := hrel
          by_cases hjl : j < pn
          · obtain ⟨p, hp⟩ : ∃ p, (bodyPgs l)[j]? = some p := ⟨_, List.getElem?_eq_getElem (by rw [← HN.out]; exact hjl)⟩
            have hpo := bodyPgs_ok HH.out.chs.ok p (List.mem_of_getElem? hp)
            obtain ⟨g, c', e, hrg, _⟩ := (H6.out.2.row.below HR.out.2).range (by decide) hp
            injection e with e1 e2 e3
            clear e2
            subst e1 e3
            have HP := Lib.hid (And.intro hrg (And.intro hpo hp))
            clear hrg hpo hp
            have j1 : (j : Int) < (pn : Int) := by omega
            go_upto_region 33 with (first
              | (refine wpList_load_mid (by rfl) 48 (.tmp 105) (by rfl) g (j * 64) (by rfl) (bv p) _ HP.out.1 Tryd.underlying48 rfl (by rw [bv_length, HP.out.2.1.1]; kernel_rfl) ?_)
              | (refine wpList_alloc_info (by rfl) 48 (by rfl) (.agg (nv .u8 zeroPg)) (nv .u8 zeroPg) (by kernel_rfl) rfl ?_)
              | (refine wpList_store_row (by rfl) 48 (.tmp 15) (.tmp 106) (by rfl) _ (nv .u8 p) (by rfl) (by rfl) 48 (nv .u8 zeroPg) (heap_alloc_new _ _) (info_pg _ HP.out.2.1.1) (by rw [nv_size, nv_size, HP.out.2.1.1]; rfl) (nv_one _ _) ?_))
            have hv1 := pg_var wr p
            generalize (wr.alloc (.cells (nv .u8 zeroPg) 48)).setRow wr.heap.size (nv .u8 p) = w11 at hv1 ⊢
            have hi11 := HR.out.1.below hv1.2
            have hs11 : w6.heap.size ≤ w11.heap.size := Nat.le_trans HR.out.2.size hv1.2.size
            have hne : wr.heap.size ≠ w6.heap.size := by have := HR.out.1.blk.lt; omega
            have hbl := isBytes_blk (m := p) hv1.1 0 HP.out.2.1.2 (fun i hi => by rw [Nat.zero_add])
            have hw := writeS (k := 64) (c := 64) hi11 HP.out.2.1.1.symm hbl (by intro e; cases e) (by decide) hs11 (by intro x hx _; cases hx; exact hne)
            have H11 := Lib.hid (And.intro hi11 (And.intro (HR.out.2.trans (hv1.2.mono HR.out.2.size)) hs11))
            clear hv1 hi11 hbl hs11 hne
            go_wp2_with (go_at_call 46; (with_reducible refine hw.mono ?_); rintro e w12 ⟨rfl, v12, hi12, hb12, -⟩; have H12 := Lib.hid (And.intro hi12 (H11.out.2.1.trans (sum_below H11.out.1 hb12 H11.out.2.2))); clear hi12 hb12)
            go_round
            case rel => exact ⟨j + 1, v12, by omega, by go_num, by rw [List.take_add_one, HP.out.2.2, List.flatten_append, ← List.append_assoc]; simpa using H12.out.1, H12.out.2⟩
            case measure => simp [intOf]; omega
          · obtain rfl : j = pn := by omega
            have hfin := HR.out
            rw [HN.out, List.take_length] at hfin
            have HF := Lib.hid hfin
            clear hfin
            go_wp2_with fail
            go_meet
            exact ⟨v, HF.out⟩
        -- >
      case rest =>
        obtain ⟨v, HC⟩ := hcut
        obtain ⟨w10, hw10⟩ : ∃ w : World, w = wc := ⟨_, rfl⟩
        subst hw10
        clear H9
        have hsum := sumS HC.out.1 HC.out.2.size
        have hDl : (digest (sumIn s.last s.num l)).length = 32 := digest_length _
        change Calls _ _ _ _ (fun e w' => e = .returned (.agg (nv .u8 (recSum s.last s.num l))) ∧ _) at hsum
        change (recSum s.last s.num l).length = 32 at hDl
        generalize hD : recSum s.last s.num l = Dg at *
        have HDL := Lib.hid (And.intro hDl hD)
        clear hDl hD
        go_upto_region 36 with (first
          | (go_at_call 47; (with_reducible refine hsum.mono ?_); rintro e w11 ⟨rfl, hb11⟩; have H11 := Lib.hid hb11; clear hb11)
          | (refine wpList_alloc_info (by rfl) 23 (by rfl) (.agg (nv .u8 (List.replicate 32 0))) (nv .u8 (List.replicate 32 0)) (by kernel_rfl) rfl ?_)
          | (refine wpList_store_row (by rfl) 23 (.tmp 16) (.tmp 112) (by rfl) _ (nv .u8 Dg) (by rfl) (by rfl) 23 (nv .u8 (List.replicate 32 0)) (heap_alloc_new _ _) (by rw [nv_size, HDL.out.1]; kernel_rfl) (by rw [nv_size, nv_size, HDL.out.1]; rfl) (nv_one _ _) ?_))
        have hv1 := sum_var w11 Dg
        generalize (w11.alloc (.cells (nv .u8 (List.replicate 32 0)) 23)).setRow w11.heap.size (nv .u8 Dg) = w12 at hv1 ⊢
        have hb12 : Below w6.heap.size w6 w12 := HC.out.2.trans ((H11.out.trans (hv1.2.mono H11.out.size)).mono HC.out.2.size)
        have hsbl : w6.heap.size ≤ w11.heap.size := Nat.le_trans HC.out.2.size H11.out.size
        have H12 := Lib.hid (And.intro hv1.1 (And.intro hb12 hsbl))
        have HSB := Lib.hid (Nat.le_trans H6.out.2.bel.size hsbl)
        generalize w11.heap.size = sb at *
        clear hv1 hb12 hsum H11 HC hsbl
        refine wp_region_any (by kernel_rfl) ?_
        change wpAny _ _ _ _ _ _ _ (World.drew _)
        refine wpAny_take (i := 0) (v := ?_) rfl (by kernel_rfl) (by kernel_rfl) (by kernel_rfl) (fun _ _ _ h => h) (Or.inl ⟨by rfl, ?_⟩) ?_
        rotate_left
        · intro w; go_simp; (try with_reducible rfl)
        (try simp only [Act.put, List.getElem_toArray, List.getElem_cons_succ, List.getElem_cons_zero, List.setIfInBounds_toArray, List.set_cons_zero, List.set_cons_succ])
        refine wpAny_take (i := 1) (v := ?_) rfl (by kernel_rfl) (by kernel_rfl) (by kernel_rfl) (fun _ _ _ h => h) (Or.inl ⟨by rfl, ?_⟩) ?_
        rotate_left
        · intro w; go_simp; (try with_reducible rfl)
        (try simp only [Act.put, List.getElem_toArray, List.getElem_cons_succ, List.getElem_cons_zero, List.setIfInBounds_toArray, List.set_cons_zero, List.set_cons_succ])
        refine wpAny_ready (rs := [2]) (by kernel_rfl) (by simp) ?_
        refine AllReady.cons rfl (fun K9 hK9 => ?_) AllReady.nil
        have hh12 : IsBlk w12.drew hd (nv .u8 (padPg (headB s.num l.length))) 48 := (H6.out.1.below H12.out.2.1 H6.out.1.lt).drew
        refine step_copy_head (by rfl) _ _ (by rfl) hd sb (by rfl) (by rfl) _ Dg hh12 (padPg_length _ (by rw [headB_length]; decide)) H12.out.1.drew HDL.out.1 fun w13 h13 hb13 => ?_
        refine hK9 _ _ ?_
        clear hK9 K9 hh12
        (try simp only [Act.put, List.getElem_toArray, List.getElem_cons_succ, List.getElem_cons_zero, List.setIfInBounds_toArray, List.set_cons_zero, List.set_cons_succ])
        refine wpAny_done (by kernel_rfl) ?_ _
        rw [← HDL.out.2, head_copy] at h13
        have hs13 : IsBlk w13 sb (nv .u8 Dg) 23 := hb13.blk H12.out.1.drew (fun e => by have := H6.out.1.lt; have := H12.out.2.2; omega)
        have hg13 : Gath w w13 (.slice pa pn pc) (bodyPgs l) := ⟨(H6.out.2.bel.trans (H12.out.2.1.mono H6.out.2.bel.size)).drew.trans (hb13.below (Nat.le_trans H6.out.2.bel.size H12.out.2.1.size) (fun k hk => by rw [hk]; exact H5.out.2)), ((H6.out.2.row.below H12.out.2.1).below ((Below.refl _ _).drew)).but hb13 (fun k hk e => HPB.out k hk e)⟩
        have H13 := Lib.hid (And.intro h13 (And.intro hs13 hg13))
        clear h13 hs13 hg13 hb13 H12 H6 H5 HB
        -- >>
        have hpn1 : 1 ≤ pn := by have := bodyPgs_length l; unfold takes at this; have := HH.out.k1; rw [HN.out]; omega
        have hhl := headPg_length s.last s.num l
        have HHL := Lib.hid hhl
        clear hhl
        go_upto_block 8 with (first
          | (refine wpList_load_row (by rfl) 48 (.tmp 12) (by rfl) hd (by rfl) 48 (nv .u8 (headPg s.last s.num l)) (0, 0) _ H13.out.1 Tryd.underlying48 rfl (info_pg _ HHL.out) ?_)
          | (refine wpList_pg_slice (by rfl) (.tmp 116) (by rfl) (headPg s.last s.num l) HHL.out (by rfl) ?_)
          | (refine wpList_app_all (by rfl) (.tmp 117) (.tmp 118) (by rfl) H13.out.2.2 HN.out.symm hpn1 HHL.out (by rfl) (by rfl) (by omega) fun v' w15 q1 q2 => ?_; obtain ⟨aa, an, ac, ea, HNA⟩ := q1.slice'; subst ea; have H15 := Lib.hid (And.intro q1 (H13.out.2.1.below q2 H13.out.2.1.lt)); clear q1 q2))
        change Hid (an = (recPgs s.last s.num l).length) at HNA
        have hsb15 := H15.out.2.lt
        have hdk15 : DkN (fun k => N k ∨ (w.heap.size ≤ k ∧ k < w15.heap.size)) B w15 db d := ((HH.out.dk.widen' (N' := fun k => N k ∨ w.heap.size ≤ k) (fun k hk => hk)).below H15.out.1.bel).fewer (fun k hk => hk.imp id (fun e => e.1))
        have HN' : Hid (∀ k, (N k ∨ (w.heap.size ≤ k ∧ k < w15.heap.size)) → k < w15.heap.size) := Lib.hid (fun k hk => hk.elim (fun e => Nat.lt_of_lt_of_le (HH.out.nlt k e) H15.out.1.bel.size) (fun e => e.2))
        have hsbw : w.heap.size ≤ sb := HSB.out
        have HKN := Lib.hid (And.intro hdk15 hsbw)
        have hrl : an = takes l.length := by rw [HNA.out]; exact recPgs_length s.last s.num l
        have han : an ≤ 100 := by rw [hrl]; unfold takes; have := HH.out.k2; omega
        clear hsb15 hdk15 hsbw H13 hpn1 hrl
        go_cut [121] (fun _ wx => Hid (DkN (fun k => N k ∨ (w.heap.size ≤ k ∧ k < w15.heap.size)) B wx db (putAll s (recPgs s.last s.num l) 0 d) ∧ But (fun k => ¬ (N k ∨ (w.heap.size ≤ k ∧ k < w15.heap.size))) w15 wx ∧ Below B w wx))
        case first =>
          -- <
          go_wp2_with fail
          go_loopw [121] (fun i wr => ∃ j : Nat, ∃ dj : DK, j ≤ an ∧ i = .int .i64 j ∧ Hid (OnB n (kk + j) dj ∧ putAll s ((recPgs s.last s.num l).drop j) j dj = putAll s (recPgs s.last s.num l) 0 d ∧ DkN (fun k => N k ∨ (w.heap.size ≤ k ∧ k < w15.heap.size)) B wr db dj ∧ But (fun k => ¬ (N k ∨ (w.heap.size ≤ k ∧ k < w15.heap.size))) w15 wr ∧ Below B w wr)) (fun i _ => an - (intOf i).toNat)
          case atStart => exact ⟨0, d, by omega, rfl, HH.out.on, rfl, HKN.out.1, But.refl _ _, H15.out.1.bel.mono HH.out.hB⟩
          case round =>
            obtain ⟨j, dj, hj, rfl, HR⟩ := hrel
            by_cases hjl : j < an
            · obtain ⟨p, hp⟩ : ∃ p, (recPgs s.last s.num l)[j]? = some p := ⟨_, List.getElem?_eq_getElem (by rw [← HNA.out]; exact hjl)⟩
              have hpo := recPgs_ok HH.out.chs.ok p (List.mem_of_getElem? hp)
              have hrow := H15.out.1.row.but HR.out.2.2.2.1 (fun k hk e => e (.inr ⟨H15.out.1.row.base_le k hk, H15.out.1.row.lt k hk⟩))
              obtain ⟨g, c', e, hrg, _⟩ := hrow.range (by decide) hp
              injection e with e1 e2 e3
              clear e2
              subst e1 e3
              have HP := Lib.hid (And.intro hrg (And.intro hpo hp))
              clear hrg hpo hp hrow
              have j1 : (j : Int) < (an : Int) := by omega
              go_upto_region 40 with (first
                | (refine wpList_load_mid (by rfl) 48 (.tmp 124) (by rfl) g (j * 64) (by rfl) (bv p) _ HP.out.1 Tryd.underlying48 rfl (by rw [bv_length, HP.out.2.1.1]; kernel_rfl) ?_)
                | (refine wpList_alloc_info (by rfl) 48 (by rfl) (.agg (nv .u8 zeroPg)) (nv .u8 zeroPg) (by kernel_rfl) rfl ?_)
                | (refine wpList_store_row (by rfl) 48 (.tmp 18) (.tmp 125) (by rfl) _ (nv .u8 p) (by rfl) (by rfl) 48 (nv .u8 zeroPg) (heap_alloc_new _ _) (info_pg _ HP.out.2.1.1) (by rw [nv_size, nv_size, HP.out.2.1.1]; rfl) (nv_one _ _) ?_))
              have hv1 := pg_var wr p
              have hc15 := HR.out.2.2.2.1.size
              generalize (wr.alloc (.cells (nv .u8 zeroPg) 48)).setRow wr.heap.size (nv .u8 p) = w16 at hv1 ⊢
              have hrg15 := HH.out.isrg.below H15.out.1.bel
              have hrgr : IsRg 100 wr rg db s := IsRg.but hrg15 HR.out.2.2.2.1 (fun e => e (.inl HH.out.nrg))
              have hrg16 := hrgr.below hv1.2
              have hdk16 : DkN (fun k => (N k ∨ (w.heap.size ≤ k ∧ k < w15.heap.size)) ∨ k = wr.heap.size) B w16 db dj := (HR.out.2.2.1.widen' (fun k hk => hk.imp id (fun e => Nat.le_of_eq e.symm))).below hv1.2
              have hlt16 : ∀ k, ((N k ∨ (w.heap.size ≤ k ∧ k < w15.heap.size)) ∨ k = wr.heap.size) → k < w16.heap.size := fun k hk => hk.elim (fun e => Nat.lt_of_lt_of_le (HN'.out k e) (Nat.le_trans hc15 hv1.2.size)) (fun e => e ▸ hv1.1.lt)
              have H16 := Lib.hid (And.intro hv1.1 (And.intro hrg16 (And.intro hdk16 (And.intro hlt16 (HR.out.2.2.2.2.trans (hv1.2.mono (Nat.le_trans HH.out.hB HR.out.2.2.2.2.size)))))))
              have HBW := Lib.hid hv1.2
              clear hv1 hrg15 hrgr hdk16 hlt16 hc15
              have c0 := hrg16.c0
              have c3 := hrg16.c3
              clear hrg16
              generalize hpv : wr.heap.size = pv at *
              refine wp_region_held_drew (S := fun w' => w'.cell? ⟨rg, 0, none⟩ = some (.pointer (some ⟨db, 0, none⟩)) ∧ w'.cell? ⟨rg, 3, none⟩ = some (.int .i64 ((s.place : Nat) : Int)) ∧ IsBlk w' pv (nv .u8 p) 48) (by kernel_rfl) ⟨c0, c3, H16.out.1⟩ (fun hHeld => ?_)
              clear c0 c3
              have hpln := HH.out.ok.place
              have hn2 := HH.out.ok.n2
              have hfitn := HH.out.ok.fit
              have hlen : n ≤ 4096 := by
                obtain ⟨fb, mb, cap, cv, hdk⟩ := HH.out.dk.dk
                have h1 := hdk.n2
                rw [HH.out.on.len] at h1
                exact h1
              refine wpAnyH_take (i := 0) (v := ?_) rfl (by kernel_rfl) (by kernel_rfl) (by kernel_rfl) (fun _ _ _ h => h) (Or.inl ⟨by rfl, ?_⟩) (by with_reducible assumption) ?_
              rotate_left
              · intro w hSw; (try dsimp only at hSw); (try go_split_ands); go_simp; (try with_reducible rfl)
              (try simp only [Act.put, List.getElem_toArray, List.getElem_cons_succ, List.getElem_cons_zero, List.setIfInBounds_toArray, List.set_cons_zero, List.set_cons_succ])
              refine wpAnyH_take (i := 1) (v := ?_) rfl (by kernel_rfl) (by kernel_rfl) (by kernel_rfl) (fun _ _ _ h => h) (Or.inl ⟨by rfl, ?_⟩) (by with_reducible assumption) ?_
              rotate_left
              · intro w hSw; (try dsimp only at hSw); (try go_split_ands); go_simp; (try with_reducible rfl)
              (try simp only [Act.put, List.getElem_toArray, List.getElem_cons_succ, List.getElem_cons_zero, List.setIfInBounds_toArray, List.set_cons_zero, List.set_cons_succ])
              refine wpAnyH_take (i := 2) (v := ?_) rfl (by kernel_rfl) (by kernel_rfl) (by kernel_rfl) (fun _ _ _ h => h) (Or.inl ⟨by rfl, ?_⟩) (by with_reducible assumption) ?_
              rotate_left
              · intro w hSw; (try dsimp only at hSw); (try go_split_ands); go_simp; (try with_reducible rfl)
              (try simp only [Act.put, List.getElem_toArray, List.getElem_cons_succ, List.getElem_cons_zero, List.setIfInBounds_toArray, List.set_cons_zero, List.set_cons_succ])
              refine wpAnyH_take (i := 3) (v := ?_) rfl (by kernel_rfl) (by kernel_rfl) (by kernel_rfl) (fun _ _ _ h => h) (Or.inl ⟨by rfl, ?_⟩) (by with_reducible assumption) ?_
              rotate_left
              · intro w hSw; (try dsimp only at hSw); (try go_split_ands); go_simp; (try with_reducible rfl)
              (try simp only [Act.put, List.getElem_toArray, List.getElem_cons_succ, List.getElem_cons_zero, List.setIfInBounds_toArray, List.set_cons_zero, List.set_cons_succ])
              refine wpAnyH_take (i := 4) (v := ?_) rfl (by kernel_rfl) (by kernel_rfl) (by kernel_rfl) (fun _ _ _ h => h) (Or.inl ⟨by rfl, ?_⟩) (by with_reducible assumption) ?_
              rotate_left
              · intro w hSw; (try dsimp only at hSw); (try go_split_ands); go_simp; (try with_reducible rfl)
              (try simp only [Act.put, List.getElem_toArray, List.getElem_cons_succ, List.getElem_cons_zero, List.setIfInBounds_toArray, List.set_cons_zero, List.set_cons_succ])
              refine wpAnyH_take (i := 5) (v := ?_) rfl (by kernel_rfl) (by kernel_rfl) (by kernel_rfl) (fun _ _ _ h => h) (Or.inl ⟨by rfl, ?_⟩) (by with_reducible assumption) ?_
              rotate_left
              · intro w hSw; (try dsimp only at hSw); (try go_split_ands); go_simp; (try with_reducible rfl)
              (try simp only [Act.put, List.getElem_toArray, List.getElem_cons_succ, List.getElem_cons_zero, List.setIfInBounds_toArray, List.set_cons_zero, List.set_cons_succ])
              refine wpAnyH_take (i := 6) (v := ?_) rfl (by kernel_rfl) (by kernel_rfl) (by kernel_rfl) (fun _ _ _ h => h) (Or.inl ⟨by rfl, ?_⟩) (by with_reducible assumption) ?_
              rotate_left
              · intro w hSw; (try dsimp only at hSw); (try go_split_ands); go_simp; (try with_reducible rfl)
              (try simp only [Act.put, List.getElem_toArray, List.getElem_cons_succ, List.getElem_cons_zero, List.setIfInBounds_toArray, List.set_cons_zero, List.set_cons_succ])
              refine wpAnyH_take (i := 7) (v := ?_) rfl (by kernel_rfl) (by kernel_rfl) (by kernel_rfl) (fun _ _ _ h => h) (Or.inl ⟨by rfl, ?_⟩) (by with_reducible assumption) ?_
              rotate_left
              · intro w hSw; (try dsimp only at hSw); (try go_split_ands); go_simp; (try with_reducible rfl)
              (try simp only [Act.put, List.getElem_toArray, List.getElem_cons_succ, List.getElem_cons_zero, List.setIfInBounds_toArray, List.set_cons_zero, List.set_cons_succ])
              refine wpAnyH_take (i := 8) (v := ?_) rfl (by kernel_rfl) (by kernel_rfl) (by kernel_rfl) (fun _ _ _ h => h) (Or.inl ⟨by rfl, ?_⟩) (by with_reducible assumption) ?_
              rotate_left
              · intro w hSw; (try dsimp only at hSw); (try go_split_ands); go_simp; (try with_reducible rfl)
              (try simp only [Act.put, List.getElem_toArray, List.getElem_cons_succ, List.getElem_cons_zero, List.setIfInBounds_toArray, List.set_cons_zero, List.set_cons_succ])
              refine wpAnyH_take (i := 9) (v := ?_) rfl (by kernel_rfl) (by kernel_rfl) (by kernel_rfl) (fun _ _ _ h => h) (Or.inl ⟨by rfl, ?_⟩) (by with_reducible assumption) ?_
              rotate_left
              · intro w hSw; (try dsimp only at hSw); (try go_split_ands); go_simp; (try with_reducible rfl)
              (try simp only [Act.put, List.getElem_toArray, List.getElem_cons_succ, List.getElem_cons_zero, List.setIfInBounds_toArray, List.set_cons_zero, List.set_cons_succ])
              refine wpAnyH_take (i := 10) (v := ?_) rfl (by kernel_rfl) (by kernel_rfl) (by kernel_rfl) (fun _ _ _ h => h) (Or.inl ⟨by rfl, ?_⟩) (by with_reducible assumption) ?_
              rotate_left
              · intro w hSw; (try dsimp only at hSw); (try go_split_ands); go_simp; (try with_reducible rfl)
              (try simp only [Act.put, List.getElem_toArray, List.getElem_cons_succ, List.getElem_cons_zero, List.setIfInBounds_toArray, List.set_cons_zero, List.set_cons_succ])
              refine wpAnyH_take (i := 11) (v := ?_) rfl (by kernel_rfl) (by kernel_rfl) (by kernel_rfl) (fun _ _ _ h => h) (Or.inl ⟨by rfl, ?_⟩) (by with_reducible assumption) ?_
              rotate_left
              · intro w hSw; (try dsimp only at hSw); (try go_split_ands); go_simp; (try with_reducible rfl)
              (try simp only [Act.put, List.getElem_toArray, List.getElem_cons_succ, List.getElem_cons_zero, List.setIfInBounds_toArray, List.set_cons_zero, List.set_cons_succ])
              refine wpAnyH_take (i := 13) (v := .agg (bv p).toArray) rfl (by kernel_rfl) (by kernel_rfl) (by kernel_rfl) (fun _ _ _ h => h) (yieldsIf_load_mid (by rfl) 48 (.tmp 18) (by rfl) pv 0 (by rfl) (bv p) _ (fun w hS => range_blk hS.2.2) Tryd.underlying48 rfl (by rw [bv_length, HP.out.2.1.1]; kernel_rfl)) (by with_reducible assumption) ?_
              (try simp only [Act.put, List.getElem_toArray, List.getElem_cons_succ, List.getElem_cons_zero, List.setIfInBounds_toArray, List.set_cons_zero, List.set_cons_succ])
              have hd16 : Below w16.heap.size w16 w16.drew := (Below.refl w16.heap.size w16).drew
              have hat := at_any (H16.out.2.1.below hd16) (by have := HH.out.ok.n1; omega) hn2 (by omega) (s.place + j)
              have hw64 : IntKind.i64.wrap ((s.place : Int) + (j : Int)) = (s.place : Int) + (j : Int) := (IntWalk.i64_left _).trans (IntWalk.wrap64_in _ ⟨by omega, by omega⟩)
              rw [show ((s.place + j : Nat) : Int) = (s.place : Int) + (j : Int) by omega] at hat
              obtain ⟨X, hX⟩ : ∃ X, X = s.first + (s.place + j) % s.n := ⟨_, rfl⟩
              rw [← hX] at hat
              have HX := Lib.hid hX
              clear hX
              refine wpAnyH_ready (rs := [12]) (by kernel_rfl) (by simp) ?_
              refine AllReadyH.cons rfl (fun K9 hK9 => ?_) AllReadyH.nil
              go_simp
              go_wp2_with (go_at_call 48; (with_reducible refine hat.mono ?_); rintro e w17 ⟨rfl, m2, hw17⟩; have hd17 : Below w16.heap.size w16 w17 := hw17 ▸ drawn_below hd16 m2; clear hw17)
              refine hK9.out _ _ ⟨(hd17.cell (cell_lt hHeld.1)).trans hHeld.1, (hd17.cell (cell_lt hHeld.2.1)).trans hHeld.2.1, H16.out.1.below hd17 H16.out.1.lt⟩ (fun hHeld => ?_)
              clear hK9 K9 hat hw64
              (try simp only [Act.put, List.getElem_toArray, List.getElem_cons_succ, List.getElem_cons_zero, List.setIfInBounds_toArray, List.set_cons_zero, List.set_cons_succ])
              have hmod : X < n := by
                rw [HX.out]
                have := Nat.mod_lt (s.place + j) (show 0 < s.n by have := HH.out.ok.n1; omega)
                omega
              have hwr := (H16.out.2.2.1.below hd17).write (fun k hk => Nat.lt_of_lt_of_le (H16.out.2.2.2.1 k hk) hd17.size) ((X : Nat) : Int) p HP.out.2.1.1 (by have := HR.out.1.pl; have := HH.out.kk; omega) (Nat.le_trans HH.out.hB (Nat.le_trans H16.out.2.2.2.2.size hd17.size))
              rw [(onB_write HR.out.1 _ hmod p).2] at hwr
              have HM := Lib.hid hmod
              clear hmod
              refine wpAnyH_ready (rs := [14]) (by kernel_rfl) (by simp) ?_
              refine AllReadyH.cons rfl (fun K9 hK9 => ?_) AllReadyH.nil
              go_simp
              go_wp2_with (go_at_call 15; refine hwr.mono ?_; rintro e w20 ⟨v20, rfl, hr20, h20, hb20, hc20⟩; obtain rfl := res_nil hr20; have H20 := Lib.hid (And.intro h20 (And.intro hb20 hc20)); clear h20 hb20 hc20 hr20)
              clear hwr
              refine hK9.out _ _ ⟨(H20.out.2.2.cell (cell_lt hHeld.1) (fun e => e (.inl (.inl HH.out.nrg)))).trans hHeld.1, (H20.out.2.2.cell (cell_lt hHeld.2.1) (fun e => e (.inl (.inl HH.out.nrg)))).trans hHeld.2.1, H20.out.2.2.blk hHeld.2.2 (fun e => e (.inr rfl))⟩ (fun hHeld => ?_)
              clear hK9 K9
              (try simp only [Act.put, List.getElem_toArray, List.getElem_cons_succ, List.getElem_cons_zero, List.setIfInBounds_toArray, List.set_cons_zero, List.set_cons_succ])
              refine wpAnyH_take (i := 15) (v := ?_) rfl (by kernel_rfl) (by kernel_rfl) (by kernel_rfl) (fun _ _ _ h => h) (Or.inl ⟨by rfl, ?_⟩) (by with_reducible assumption) ?_
              rotate_left
              · intro w hSw; (try dsimp only at hSw); (try go_split_ands); go_simp; (try with_reducible rfl)
              (try simp only [Act.put, List.getElem_toArray, List.getElem_cons_succ, List.getElem_cons_zero, List.setIfInBounds_toArray, List.set_cons_zero, List.set_cons_succ])
              refine wpAnyH_done (by kernel_rfl) ?_ _
              clear hHeld
              have hbt : But (fun k => ¬ (N k ∨ (w.heap.size ≤ k ∧ k < w15.heap.size))) w15 w20 := (HR.out.2.2.2.1.trans (But.of_below (HBW.out.trans (hd17.mono (by have := HBW.out.size; omega))) (Nat.le_of_eq hpv))).trans (H20.out.2.2.mono (fun k hk e => hk (.inl e)))
              have hfb : Below B w w20 := (H16.out.2.2.2.2.trans (hd17.mono (Nat.le_trans HH.out.hB H16.out.2.2.2.2.size))).trans H20.out.2.1
              have hput : putAll s ((recPgs s.last s.num l).drop (j + 1)) (j + 1) (dj.write ((X : Nat) : Int) p) = putAll s (recPgs s.last s.num l) 0 d := by
                rw [HX.out, ← HR.out.2.1, List.drop_eq_getElem_cons (show j < (recPgs s.last s.num l).length by rw [← HNA.out]; exact hjl), (List.getElem?_eq_some_iff.1 HP.out.2.2).2]
                rfl
              have HF := Lib.hid (And.intro (onB_written HR.out.1 _ HM.out p HP.out.2.1.1 HP.out.2.1.2) (And.intro hput (And.intro (H20.out.1.fewer (fun k hk => .inl hk)) (And.intro hbt hfb))))
              clear hbt hfb hput hd16 hd17
              go_wp2_with fail
              go_round
              case rel => exact ⟨j + 1, _, by omega, by go_num, HF.out⟩
              case measure => simp [intOf]; omega
            · obtain rfl : j = an := by omega
              have hfin := HR.out
              rw [HNA.out, List.drop_length] at hfin
              have HF := Lib.hid (And.intro hfin.2.1 hfin.2.2)
              clear hfin
              go_wp2_with fail
              go_meet
              rw [← HF.out.1]
              exact HF.out.2
          -- >
        case rest =>
          have HD := hcut
          obtain ⟨w21, hw21⟩ : ∃ w : World, w = wc := ⟨_, rfl⟩
          subst hw21
          -- <
          have hpt : pn + 1 = takes l.length := by rw [HN.out]; exact bodyPgs_length l
          have hrg21 : IsRg 100 w21 rg db s := IsRg.but (HH.out.isrg.below H15.out.1.bel) HD.out.2.1 (fun e => e (.inl HH.out.nrg))
          have hsb21 : IsBlk w21 sb (nv .u8 Dg) 23 := HD.out.2.1.blk H15.out.2 (fun e => e (.inr ⟨HKN.out.2, H15.out.2.lt⟩))
          have hrm : ((s.place : Int) + (pn : Int) + 1).tmod (s.n : Int) = (((s.place + takes l.length) % s.n : Nat) : Int) := by
            rw [← hpt, show (s.place : Int) + (pn : Int) + 1 = ((s.place + (pn + 1) : Nat) : Int) by omega]
            exact rem_nat _ _
          have hw1 : IntKind.i64.wrap ((s.place : Int) + (pn : Int)) = (s.place : Int) + (pn : Int) := (IntWalk.i64_left _).trans (IntWalk.wrap64_in _ ⟨by omega, by have := HH.out.ok.place; have := HH.out.ok.n2; omega⟩)
          have hw2 : IntKind.i64.wrap ((s.place : Int) + (pn : Int) + 1) = (s.place : Int) + (pn : Int) + 1 := (IntWalk.i64_left _).trans (IntWalk.wrap64_in _ ⟨by omega, by have := HH.out.ok.place; have := HH.out.ok.n2; omega⟩)
          have hu1 : IntKind.u64.wrap ((s.num : Int) + 1) = (((s.num + 1) % 18446744073709551616 : Nat) : Int) := by rw [IntKind.wrap_u64]; omega
          have hn0 : ¬ ((s.n : Int) = 0) := by have := HH.out.ok.n1; omega
          have hnN : ¬ s.n = 0 := by have := HH.out.ok.n1; omega
          have hn0b : ((s.n : Int) == 0) = false := by simp; have := HH.out.ok.n1; omega
          have hmk : IsRg 100 (w21.drew.setCells rg 3 (markL (s.behind l.length Dg))) rg db { s with place := (s.behind l.length Dg).place, num := (s.behind l.length Dg).num, last := (s.behind l.length Dg).last } := IsRg.setMark (hrg21.below ((Below.refl _ _).drew)) HH.out.ok.len (m := s.behind l.length Dg) HDL.out.1
          have hth : w21.drew.there rg 3 34 := isBlk_there (hrg21.below ((Below.refl w21.heap.size w21).drew)) 3 34 (by rw [ringL_length HH.out.ok.len]; decide)
          have hbm : But (fun k => k = rg) w21 (w21.drew.setCells rg 3 (markL (s.behind l.length Dg))) := (But.refl (fun k => k = rg) w21).drew.setCells (g := rg) rfl _ _
          have hP := @built_mark
          obtain ⟨P, hPe⟩ : ∃ P, P = (s.place + takes l.length) % s.n := ⟨_, rfl⟩
          obtain ⟨M, hMe⟩ : ∃ M, M = (s.num + 1) % 18446744073709551616 := ⟨_, rfl⟩
          rw [← hPe] at hrm
          rw [← hMe] at hu1
          have hml : (markL (s.behind l.length Dg)) = .int .i64 ((P : Nat) : Int) :: .int .u64 ((M : Nat) : Int) :: bv Dg := by rw [hPe, hMe]; rfl
          have HMK := Lib.hid (And.intro hmk (And.intro hth (And.intro hbm hml)))
          have c3 := hrg21.c3
          have c2 := hrg21.c2
          have c4 := hrg21.c4
          have HPM := Lib.hid (And.intro hpt (And.intro hPe hMe))
          clear hmk hth hbm hml hP hPe hMe hpt hrg21
          go_upto_region 44 with fail
          refine wp_region_till 23 (S := fun w' => w'.cell? ⟨rg, 3, none⟩ = some (.int .i64 ((s.place : Nat) : Int)) ∧ w'.cell? ⟨rg, 2, none⟩ = some (.int .i64 ((s.n : Nat) : Int)) ∧ w'.cell? ⟨rg, 4, none⟩ = some (.int .u64 ((s.num : Nat) : Int)) ∧ IsBlk w' sb (nv .u8 Dg) 23) (by kernel_rfl) ⟨c3, c2, c4, hsb21⟩ (fun hHeld => ?_)
          clear c3 c2 c4 hsb21
          refine wpTill_take (i := 0) (v := ?_) rfl (by kernel_rfl) (by kernel_rfl) (by kernel_rfl) (by kernel_rfl) (fun _ _ _ h => h) (Or.inl ⟨by rfl, ?_⟩) (by with_reducible assumption) ?_
          rotate_left
          · intro w hSw; (try dsimp only at hSw); (try go_split_ands); go_simp; (try with_reducible rfl)
          (try simp only [Act.put, List.getElem_toArray, List.getElem_cons_succ, List.getElem_cons_zero, List.setIfInBounds_toArray, List.set_cons_zero, List.set_cons_succ])
          refine wpTill_take (i := 1) (v := ?_) rfl (by kernel_rfl) (by kernel_rfl) (by kernel_rfl) (by kernel_rfl) (fun _ _ _ h => h) (Or.inl ⟨by rfl, ?_⟩) (by with_reducible assumption) ?_
          rotate_left
          · intro w hSw; (try dsimp only at hSw); (try go_split_ands); go_simp; (try with_reducible rfl)
          (try simp only [Act.put, List.getElem_toArray, List.getElem_cons_succ, List.getElem_cons_zero, List.setIfInBounds_toArray, List.set_cons_zero, List.set_cons_succ])
          refine wpTill_take (i := 2) (v := ?_) rfl (by kernel_rfl) (by kernel_rfl) (by kernel_rfl) (by kernel_rfl) (fun _ _ _ h => h) (Or.inl ⟨by rfl, ?_⟩) (by with_reducible assumption) ?_
          rotate_left
          · intro w hSw; (try dsimp only at hSw); (try go_split_ands); go_simp; (try with_reducible rfl)
          (try simp only [Act.put, List.getElem_toArray, List.getElem_cons_succ, List.getElem_cons_zero, List.setIfInBounds_toArray, List.set_cons_zero, List.set_cons_succ])
          refine wpTill_take (i := 3) (v := ?_) rfl (by kernel_rfl) (by kernel_rfl) (by kernel_rfl) (by kernel_rfl) (fun _ _ _ h => h) (Or.inl ⟨by rfl, ?_⟩) (by with_reducible assumption) ?_
          rotate_left
          · intro w hSw; (try dsimp only at hSw); (try go_split_ands); go_simp; (try with_reducible rfl)
          (try simp only [Act.put, List.getElem_toArray, List.getElem_cons_succ, List.getElem_cons_zero, List.setIfInBounds_toArray, List.set_cons_zero, List.set_cons_succ])
          refine wpTill_take (i := 4) (v := ?_) rfl (by kernel_rfl) (by kernel_rfl) (by kernel_rfl) (by kernel_rfl) (fun _ _ _ h => h) (Or.inl ⟨by rfl, ?_⟩) (by with_reducible assumption) ?_
          rotate_left
          · intro w hSw; (try dsimp only at hSw); (try go_split_ands); go_simp; (try with_reducible rfl)
          (try simp only [Act.put, List.getElem_toArray, List.getElem_cons_succ, List.getElem_cons_zero, List.setIfInBounds_toArray, List.set_cons_zero, List.set_cons_succ])
          refine wpTill_take (i := 5) (v := ?_) rfl (by kernel_rfl) (by kernel_rfl) (by kernel_rfl) (by kernel_rfl) (fun _ _ _ h => h) (Or.inl ⟨by rfl, ?_⟩) (by with_reducible assumption) ?_
          rotate_left
          · intro w hSw; (try dsimp only at hSw); (try go_split_ands); go_simp; (try with_reducible rfl)
          (try simp only [Act.put, List.getElem_toArray, List.getElem_cons_succ, List.getElem_cons_zero, List.setIfInBounds_toArray, List.set_cons_zero, List.set_cons_succ])
          refine wpTill_take (i := 6) (v := ?_) rfl (by kernel_rfl) (by kernel_rfl) (by kernel_rfl) (by kernel_rfl) (fun _ _ _ h => h) (Or.inl ⟨by rfl, ?_⟩) (by with_reducible assumption) ?_
          rotate_left
          · intro w hSw; (try dsimp only at hSw); (try go_split_ands); go_simp; (try with_reducible rfl)
          (try simp only [Act.put, List.getElem_toArray, List.getElem_cons_succ, List.getElem_cons_zero, List.setIfInBounds_toArray, List.set_cons_zero, List.set_cons_succ])
          refine wpTill_take (i := 7) (v := ?_) rfl (by kernel_rfl) (by kernel_rfl) (by kernel_rfl) (by kernel_rfl) (fun _ _ _ h => h) (Or.inl ⟨by rfl, ?_⟩) (by with_reducible assumption) ?_
          rotate_left
          · intro w hSw; (try dsimp only at hSw); (try go_split_ands); go_simp; (try with_reducible rfl)
          (try simp only [Act.put, List.getElem_toArray, List.getElem_cons_succ, List.getElem_cons_zero, List.setIfInBounds_toArray, List.set_cons_zero, List.set_cons_succ])
          refine wpTill_take (i := 8) (v := ?_) rfl (by kernel_rfl) (by kernel_rfl) (by kernel_rfl) (by kernel_rfl) (fun _ _ _ h => h) (Or.inl ⟨by rfl, ?_⟩) (by with_reducible assumption) ?_
          rotate_left
          · intro w hSw; (try dsimp only at hSw); (try go_split_ands); go_simp; (try with_reducible rfl)
          (try simp only [Act.put, List.getElem_toArray, List.getElem_cons_succ, List.getElem_cons_zero, List.setIfInBounds_toArray, List.set_cons_zero, List.set_cons_succ])
          refine wpTill_take (i := 9) (v := ?_) rfl (by kernel_rfl) (by kernel_rfl) (by kernel_rfl) (by kernel_rfl) (fun _ _ _ h => h) (Or.inl ⟨by rfl, ?_⟩) (by with_reducible assumption) ?_
          rotate_left
          · intro w hSw; (try dsimp only at hSw); (try go_split_ands); go_simp; (try with_reducible rfl)
          (try simp only [Act.put, List.getElem_toArray, List.getElem_cons_succ, List.getElem_cons_zero, List.setIfInBounds_toArray, List.set_cons_zero, List.set_cons_succ])
          refine wpTill_take (i := 10) (v := ?_) rfl (by kernel_rfl) (by kernel_rfl) (by kernel_rfl) (by kernel_rfl) (fun _ _ _ h => h) (Or.inl ⟨by rfl, ?_⟩) (by with_reducible assumption) ?_
          rotate_left
          · intro w hSw; (try dsimp only at hSw); (try go_split_ands); go_simp; (try with_reducible rfl)
          (try simp only [Act.put, List.getElem_toArray, List.getElem_cons_succ, List.getElem_cons_zero, List.setIfInBounds_toArray, List.set_cons_zero, List.set_cons_succ])
          refine wpTill_take (i := 11) (v := ?_) rfl (by kernel_rfl) (by kernel_rfl) (by kernel_rfl) (by kernel_rfl) (fun _ _ _ h => h) (Or.inl ⟨by rfl, ?_⟩) (by with_reducible assumption) ?_
          rotate_left
          · intro w hSw; (try dsimp only at hSw); (try go_split_ands); go_simp; (try with_reducible rfl)
          (try simp only [Act.put, List.getElem_toArray, List.getElem_cons_succ, List.getElem_cons_zero, List.setIfInBounds_toArray, List.set_cons_zero, List.set_cons_succ])
          refine wpTill_take (i := 12) (v := ?_) rfl (by kernel_rfl) (by kernel_rfl) (by kernel_rfl) (by kernel_rfl) (fun _ _ _ h => h) (Or.inl ⟨by rfl, ?_⟩) (by with_reducible assumption) ?_
          rotate_left
          · intro w hSw; (try dsimp only at hSw); (try go_split_ands); go_simp; (try with_reducible rfl)
          (try simp only [Act.put, List.getElem_toArray, List.getElem_cons_succ, List.getElem_cons_zero, List.setIfInBounds_toArray, List.set_cons_zero, List.set_cons_succ])
          refine wpTill_take (i := 13) (v := ?_) rfl (by kernel_rfl) (by kernel_rfl) (by kernel_rfl) (by kernel_rfl) (fun _ _ _ h => h) (Or.inl ⟨by rfl, ?_⟩) (by with_reducible assumption) ?_
          rotate_left
          · intro w hSw; (try dsimp only at hSw); (try go_split_ands); go_simp; (try with_reducible rfl)
          (try simp only [Act.put, List.getElem_toArray, List.getElem_cons_succ, List.getElem_cons_zero, List.setIfInBounds_toArray, List.set_cons_zero, List.set_cons_succ])
          refine wpTill_take (i := 14) (v := ?_) rfl (by kernel_rfl) (by kernel_rfl) (by kernel_rfl) (by kernel_rfl) (fun _ _ _ h => h) (Or.inl ⟨by rfl, ?_⟩) (by with_reducible assumption) ?_
          rotate_left
          · intro w hSw; (try dsimp only at hSw); (try go_split_ands); go_simp; (try with_reducible rfl)
          (try simp only [Act.put, List.getElem_toArray, List.getElem_cons_succ, List.getElem_cons_zero, List.setIfInBounds_toArray, List.set_cons_zero, List.set_cons_succ])
          refine wpTill_take (i := 15) (v := ?_) rfl (by kernel_rfl) (by kernel_rfl) (by kernel_rfl) (by kernel_rfl) (fun _ _ _ h => h) (Or.inl ⟨by rfl, ?_⟩) (by with_reducible assumption) ?_
          rotate_left
          · intro w hSw; (try dsimp only at hSw); (try go_split_ands); go_simp; (try with_reducible rfl)
          (try simp only [Act.put, List.getElem_toArray, List.getElem_cons_succ, List.getElem_cons_zero, List.setIfInBounds_toArray, List.set_cons_zero, List.set_cons_succ])
          refine wpTill_take (i := 16) (v := ?_) rfl (by kernel_rfl) (by kernel_rfl) (by kernel_rfl) (by kernel_rfl) (fun _ _ _ h => h) (Or.inl ⟨by rfl, ?_⟩) (by with_reducible assumption) ?_
          rotate_left
          · intro w hSw; (try dsimp only at hSw); (try go_split_ands); go_simp; (try with_reducible rfl)
          (try simp only [Act.put, List.getElem_toArray, List.getElem_cons_succ, List.getElem_cons_zero, List.setIfInBounds_toArray, List.set_cons_zero, List.set_cons_succ])
          refine wpTill_take (i := 17) (v := ?_) rfl (by kernel_rfl) (by kernel_rfl) (by kernel_rfl) (by kernel_rfl) (fun _ _ _ h => h) (Or.inl ⟨by rfl, ?_⟩) (by with_reducible assumption) ?_
          rotate_left
          · intro w hSw; (try dsimp only at hSw); (try go_split_ands); go_simp; (try with_reducible rfl)
          (try simp only [Act.put, List.getElem_toArray, List.getElem_cons_succ, List.getElem_cons_zero, List.setIfInBounds_toArray, List.set_cons_zero, List.set_cons_succ])
          refine wpTill_take (i := 18) (v := ?_) rfl (by kernel_rfl) (by kernel_rfl) (by kernel_rfl) (by kernel_rfl) (fun _ _ _ h => h) (Or.inl ⟨by rfl, ?_⟩) (by with_reducible assumption) ?_
          rotate_left
          · intro w hSw; (try dsimp only at hSw); (try go_split_ands); go_simp; (try with_reducible rfl)
          (try simp only [Act.put, List.getElem_toArray, List.getElem_cons_succ, List.getElem_cons_zero, List.setIfInBounds_toArray, List.set_cons_zero, List.set_cons_succ])
          refine wpTill_take (i := 19) (v := ?_) rfl (by kernel_rfl) (by kernel_rfl) (by kernel_rfl) (by kernel_rfl) (fun _ _ _ h => h) (Or.inl ⟨by rfl, ?_⟩) (by with_reducible assumption) ?_
          rotate_left
          · intro w hSw; (try dsimp only at hSw); (try go_split_ands); go_simp; (try with_reducible rfl)
          (try simp only [Act.put, List.getElem_toArray, List.getElem_cons_succ, List.getElem_cons_zero, List.setIfInBounds_toArray, List.set_cons_zero, List.set_cons_succ])
          refine wpTill_take (i := 20) (v := ?_) rfl (by kernel_rfl) (by kernel_rfl) (by kernel_rfl) (by kernel_rfl) (fun _ _ _ h => h) (Or.inl ⟨by rfl, ?_⟩) (by with_reducible assumption) ?_
          rotate_left
          · intro w hSw; (try dsimp only at hSw); (try go_split_ands); go_simp; (try with_reducible rfl)
          (try simp only [Act.put, List.getElem_toArray, List.getElem_cons_succ, List.getElem_cons_zero, List.setIfInBounds_toArray, List.set_cons_zero, List.set_cons_succ])
          refine wpTill_take (i := 21) (v := .agg (bv Dg).toArray) rfl (by kernel_rfl) (by kernel_rfl) (by kernel_rfl) (by kernel_rfl) (fun _ _ _ h => h) (yieldsIf_load_mid (by rfl) 23 (.tmp 16) (by rfl) sb 0 (by rfl) (bv Dg) _ (fun w hS => range_blk hS.2.2.2) Tryd.underlying23 rfl (by rw [bv_length, HDL.out.1]; kernel_rfl)) (by with_reducible assumption) ?_
          (try simp only [Act.put, List.getElem_toArray, List.getElem_cons_succ, List.getElem_cons_zero, List.setIfInBounds_toArray, List.set_cons_zero, List.set_cons_succ])
          refine wpTill_take (i := 22) (v := .agg (markL (s.behind l.length Dg)).toArray) rfl (by kernel_rfl) (by kernel_rfl) (by kernel_rfl) (by kernel_rfl) (fun _ _ _ h => h) (yieldsIf_build (by rfl) 25 #[(0, .tmp 160), (1, .tmp 166), (2, .tmp 167)] (by rfl) _ (by rw [HMK.out.2.2.2]; exact built_mark ((P : Nat) : Int) ((M : Nat) : Int) Dg HDL.out.1)) (by with_reducible assumption) ?_
          (try simp only [Act.put, List.getElem_toArray, List.getElem_cons_succ, List.getElem_cons_zero, List.setIfInBounds_toArray, List.set_cons_zero, List.set_cons_succ])
          refine wpTill_last (by kernel_rfl) ?_
          refine wpAny_take (i := 23) (v := ?_) rfl (by kernel_rfl) (by kernel_rfl) (by kernel_rfl) (fun _ _ _ h => h) (Or.inl ⟨by rfl, ?_⟩) ?_
          rotate_left
          · intro w; go_simp; (try with_reducible rfl)
          (try simp only [Act.put, List.getElem_toArray, List.getElem_cons_succ, List.getElem_cons_zero, List.setIfInBounds_toArray, List.set_cons_zero, List.set_cons_succ])
          refine wpAny_take (i := 24) (v := ?_) rfl (by kernel_rfl) (by kernel_rfl) (by kernel_rfl) (fun _ _ _ h => h) (Or.inl ⟨by rfl, ?_⟩) ?_
          rotate_left
          · intro w; go_simp; (try with_reducible rfl)
          (try simp only [Act.put, List.getElem_toArray, List.getElem_cons_succ, List.getElem_cons_zero, List.setIfInBounds_toArray, List.set_cons_zero, List.set_cons_succ])
          refine wpAny_ready (rs := [25]) (by kernel_rfl) (by simp) ?_
          refine AllReady.cons rfl (fun K9 hK9 => ?_) AllReady.nil
          rw [if_pos (by rfl)]
          simp only [List.getElem_toArray, List.getElem_cons_succ, List.getElem_cons_zero]
          have hmlen : (markL (s.behind l.length Dg)).length = 34 := markL_length (s := s.behind l.length Dg) HDL.out.1
          refine wp_store_mid 25 (.tmp 170) (.tmp 168) (by rfl) rg 3 (markL (s.behind l.length Dg)).toArray (by rfl) (by rfl) (by rw [List.size_toArray, hmlen]; exact HMK.out.2.1) (by rw [List.size_toArray, hmlen]; kernel_rfl) (markL_one _) ?_
          refine hK9 _ _ ?_
          clear hK9 K9 hHeld hmlen
          (try simp only [Act.put, List.getElem_toArray, List.getElem_cons_succ, List.getElem_cons_zero, List.setIfInBounds_toArray, List.set_cons_zero, List.set_cons_succ])
          refine wpAny_done (by kernel_rfl) ?_ _
          change Exit.then _ _ _ _ (w21.drew.setCells rg 3 (markL (s.behind l.length Dg)))
          generalize w21.drew.setCells rg 3 (markL (s.behind l.length Dg)) = w22 at HMK ⊢
          have c37 := IsRg.c37 HMK.out.1 HDL.out.1
          have z37 := IsBlk.fz HMK.out.1 37
          have hus : (s.used : Int) + ((pn : Int) + 1) = ((s.used + takes l.length : Nat) : Int) := by have := HPM.out.1; omega
          have hset := IsRg.setUsed HMK.out.1 HDL.out.1 (s.used + takes l.length)
          have hb23 : But (fun k => k = rg) w22 (w22.setCell ⟨rg, 37, none⟩ (.int .i64 ((s.used + takes l.length : Nat) : Int))) := (But.refl (fun k => k = rg) w22).setCell (p := ⟨rg, 37, none⟩) rfl _
          rw [← hus] at hset hb23
          have hub : (s.used : Int) ≤ 4096 := by have := HH.out.ok.used; have := HH.out.ok.n2; omega
          have HS := Lib.hid (And.intro hset (HMK.out.2.2.1.trans hb23))
          clear hset hb23 hrm hw1 hw2 hu1 hn0 hn0b hus hnN
          go_wp2_with fail
          go_ret
          refine ⟨rfl, ?_, (HD.out.1.but' HS.out.2 (fun k hk => by rw [hk]; exact .inl HH.out.nrg)).fewer (fun k hk => .inl hk), ?_, HD.out.2.2.trans (HS.out.2.below (Nat.le_trans HH.out.hB HD.out.2.2.size) (fun k hk => by rw [hk]; exact HH.out.hrg))⟩
          · rw [HDL.out.2]; exact HS.out.1
          · exact ((But.of_below H15.out.1.bel (Nat.le_refl _)).trans (HD.out.2.1.mono (fun k hk => .inl (fun e => hk (.inl e))))).trans (HS.out.2.mono (fun k hk => .inr hk))
          -- >
      -- }
end Go.Proofs.YtkabkehfckbhcaaDoor
