/-
  disk: DiskKeeps walked.
-/
import Derived.Test.YtjmjfgbpjecgfaaDoorDkKm
import Derived.Deep.DeepCutAuto
import Derived.Deep.CutBlock
import Derived.Deep.MidRow
import Derived.Deep.LoopGhost
namespace Go.Proofs.YtjmjfgbpjecgfaaDoor
set_option linter.unusedVariables false
set_option linter.unusedSimpArgs false
open Go.RowKit

def pg2 (c : Nat) : List Nat := c :: 2 :: List.replicate 62 0
theorem pg2_length (c : Nat) : (pg2 c).length = 64 := by simp [pg2]
/-- A disk that is on and has fuel without end. -/
def OnD (n k : Nat) (d : DK) : Prop := d.firm.length = n ∧ d.pend.length ≤ k ∧ d.off = false ∧ d.fuel = -1 ∧ ∀ x ∈ d.pend, x.1 < n
theorem OnD.more {n k m : Nat} {d : DK} (h : OnD n k d) (hk : k ≤ m) : OnD n m d := ⟨h.1, Nat.le_trans h.2.1 hk, h.2.2⟩
theorem onD_new (n : Nat) : OnD n 0 (DK.new n) := ⟨by simp [DK.new], Nat.le_refl _, rfl, rfl, fun x hx => by simp [DK.new] at hx⟩
theorem onD_step {n k : Nat} {d : DK} (h : OnD n k d) : d.step = d ∧ d.may = true := by
  obtain ⟨_, _, h1, h2, _⟩ := h
  constructor
  · unfold DK.step; rw [h1, h2]; rfl
  · simp [DK.may, h1, h2]
theorem onD_write {n k : Nat} {d : DK} (h : OnD n k d) (i : Nat) (hi : i < n) (p : List Nat) : d.write (i : Int) p = { d with pend := d.pend ++ [(i, p)] } ∧ d.writeE (i : Int) = 0 := by
  have hb : d.bad (i : Int) = false := by simp only [DK.bad, h.1, Bool.or_eq_false_iff, decide_eq_false_iff_not]; omega
  obtain ⟨h1, h2⟩ := onD_step h
  have h3 := h.2.2.1
  constructor
  · simp [DK.write, h3, hb, h2, h1]
  · simp [DK.writeE, h3, hb, h2]
theorem onD_written {n k : Nat} {d : DK} (h : OnD n k d) (i : Nat) (hi : i < n) (p : List Nat) : OnD n (k + 1) { d with pend := d.pend ++ [(i, p)] } := by
  refine ⟨h.1, by simp; exact h.2.1, h.2.2.1, h.2.2.2.1, fun x hx => ?_⟩
  rcases List.mem_append.1 hx with h0 | h0
  · exact h.2.2.2.2 x h0
  · simp at h0; subst h0; exact hi
theorem onD_flush {n k : Nat} {d : DK} (h : OnD n k d) : d.flush = { d with firm := d.cur, pend := [] } ∧ d.flushE = 0 ∧ OnD n k { d with firm := d.cur, pend := [] } := by
  obtain ⟨h1, h2⟩ := onD_step h
  exact ⟨by simp [DK.flush, h1, h2], by simp [DK.flushE, h2], by show d.cur.length = n; rw [cur_length]; exact h.1, Nat.zero_le _, h.2.2.1, h.2.2.2.1, fun x hx => by cases hx⟩
theorem pendOf_write (d : DK) (i : Nat) (p : List Nat) (j : Nat) : (fun j => if j = i then pendOf d.pend i ++ [p] else pendOf d.pend j) j = pendOf (d.pend ++ [(i, p)]) j := by
  rw [pendOf_snoc]
  by_cases e : i = j
  · subst e; simp
  · have : ¬ j = i := fun h => e h.symm
    simp [e, this]
theorem run_pg_slice (w : World) (p : List Nat) (hp : p.length = 64) : (Instr.buildSlice 43 1 #[(0, pgV p)]).run Tryd.prog w = .ok (.slice (some ⟨w.heap.size, 0, none⟩) 1 1) (w.alloc (.cells (nv .u8 p) 33)) := by
  obtain ⟨it, z, h1, h2, h3, h4, h5⟩ := pg_typ
  have hz : z.cells.size = 64 := by rw [h5]; rfl
  have hn : (nv .u8 p).size = 64 := by rw [nv_size]; exact hp
  refine run_buildSlice w _ 33 1 _ _ it z Tryd.underlying43 h1 h2 (by rw [h3]; omega) (by rw [h3]; omega) ?_
  have hsz : ((Array.range (1 * it.size)).map (fun x => z.cells[x % z.cells.size]!)).size = (nv .u8 p).size := by rw [Array.size_map, Array.size_range, h3, hn]
  exact fill_one _ _ _ (by rw [hn, h3]) hsz
theorem pg_src (w : World) (p : List Nat) (hp : p.length = 64) : Src (w.alloc (.cells (nv .u8 p) 33)) 64 (some ⟨w.heap.size, 0, none⟩) 1 (bv p) := by
  refine ⟨by rw [bv_length, hp], (fun h => by cases h), ?_⟩
  rintro ad ⟨rfl⟩ j u hu
  rw [Addr.add_mid, Nat.zero_add]
  refine (IsBlk.new w (nv .u8 p) 33).cell j ?_
  show (bv p).toArray[j]? = some u
  rw [List.getElem?_toArray]
  exact hu

/-- The disk and the two arrays, and what is as it was. -/
structure KI (W : World) (B db fb sb : Nat) (wr : World) (d : DK) (F : List (List Nat)) (sv : List Value) (S : Nat → List (List Nat)) : Prop where
  dk : DkN (KN fb sb sv) B wr db d
  kp : Kp wr B fb sb F sv S
  bel : Below W.heap.size W wr
  hB : W.heap.size ≤ B
  hs : B ≤ wr.heap.size
section
variable {W : World} {B db fb sb : Nat} {wr w' : World} {d d' : DK} {F F' : List (List Nat)} {sv sv' : List Value} {S S' : Nat → List (List Nat)}
theorem KI.below (h : KI W B db fb sb wr d F sv S) (hb : Below wr.heap.size wr w') : KI W B db fb sb w' d F sv S :=
  ⟨h.dk.below hb, h.kp.below hb, h.bel.trans (hb.mono h.bel.size), h.hB, Nat.le_trans h.hs hb.size⟩
theorem KI.disk (h : KI W B db fb sb wr d F sv S) (hd : DkN (KN fb sb sv) B w' db d') (hb1 : Below B wr w') (hb2 : But (fun k => ¬ KN fb sb sv k) wr w') : KI W B db fb sb w' d' F sv S :=
  ⟨hd, h.kp.but hb2 (fun k hk hn => hn hk), h.bel.trans (hb1.mono h.hB), h.hB, Nat.le_trans h.hs hb1.size⟩
theorem KI.turn (h : KI W B db fb sb wr d F sv S) (hk : Kp w' B fb sb F' sv' S') (hb : But (KN fb sb sv) wr w') (hn : ∀ n, KN fb sb sv' n → KN fb sb sv n ∨ wr.heap.size ≤ n) : KI W B db fb sb w' d F' sv' S' :=
  ⟨((h.dk.widen (N' := fun n => KN fb sb sv n ∨ wr.heap.size ≤ n) (fun _ x => x)).but hb (fun _ x => .inl x)).fewer hn, hk, h.bel.trans (hb.below h.bel.size (fun n hn => Nat.le_trans h.hB (h.kp.nbase n hn))), h.hB, Nat.le_trans h.hs hb.size⟩
theorem KI.congr (h : KI W B db fb sb wr d F sv S) (hs : ∀ j, j < 20 → S' j = S j) : KI W B db fb sb wr d F sv S' := ⟨h.dk, h.kp.congr hs, h.bel, h.hB, h.hs⟩
/-- One more page for a sector, laid down. -/
theorem KI.page {w4 w5 : World} (h : KI W B db fb sb wr d F sv S) {k : Nat} {v v' : Value} {p : List Nat} (hp : p.length = 64) (hv : sv[k]? = some v) (hb : Below wr.heap.size wr w4)
    (q1 : w5.ownsRow B 33 64 v' ((S k).length + 1) ((S k).flatMap pgF ++ bv p)) (q2 : w4.grownBy w5 v.ownBlock) (q3 : v'.ownBlock = v.ownBlock ∨ v'.ownBlock = some w4.heap.size) :
    KI W B db fb sb (w5.setCell ⟨sb, k, none⟩ v') d F (sv.set k v') (fun j => if j = k then S k ++ [p] else S j) := by
  have h4 := h.below hb
  have hr0 := h4.kp.rows k v hv
  have hr : RowF w5 B 33 64 pgF v' (S k ++ [p]) := by
    refine ⟨fun x hx => ?_, ?_⟩
    · rcases List.mem_append.1 hx with hx | hx
      · exact hr0.1 x hx
      · simp at hx; subst hx; rw [pgF_length, hp]
    · rw [List.length_append, List.flatMap_append]
      simpa [pgF] using q1
  have hb5 : But (fun b => v.ownBlock = some b) w4 w5 := (But.refl _ _).grown q2 (fun k hk => hk)
  obtain ⟨t1, t2, t3⟩ := h4.kp.turn hv hb5 hr (fun n hn => by
    rcases q3 with e | e
    · rw [e] at hn; exact .inl hn
    · rw [e] at hn; obtain rfl := Option.some.inj hn; exact .inr (Nat.le_refl _))
  exact h4.turn t1 t2 t3
/-- A sector's last page made firm; none may be there any more. -/
theorem KI.settle (h : KI W B db fb sb wr d F sv S) {j : Nat} (hj : j < 20) {p : List Nat} (hp : p.length = 64) {v : Value} (hv : sv[j]? = some v) :
    KI W B db fb sb ((wr.setCells fb (j * 64) (bv p)).setCell ⟨sb, j, none⟩ (.slice none 0 0)) d (F.set j p) (sv.set j (.slice none 0 0)) (fun i => if i = j then [] else S i) := by
  obtain ⟨h1, h2⟩ := h.kp.put hj hp
  have h3 : KI W B db fb sb (wr.setCells fb (j * 64) (bv p)) d (F.set j p) sv S := h.turn h1 (h2.mono (fun k hk => .inl hk)) (fun n hn => .inl hn)
  obtain ⟨t1, t2, t3⟩ := h3.kp.turn hv (But.refl _ _) (RowF.nil _ _ _ _ _) (fun n hn => by cases hn)
  exact h3.turn t1 t2 t3
end
/-- In the midst of a flush of the two arrays. -/
def MidK (dk : DK) (m : Nat) (G : List (List Nat)) (S : Nat → List (List Nat)) : Prop := (∀ i, i < 20 → G.getD i zeroPg = if i < m then dk.cur.getD i zeroPg else dk.firm.getD i zeroPg) ∧ ∀ i, i < 20 → S i = if i < m then [] else pendOf dk.pend i
theorem midK_start (dk : DK) : MidK dk 0 dk.firm (pendOf dk.pend) := ⟨fun i _ => by simp, fun i _ => by simp⟩
theorem midK_none {dk : DK} {k m : Nat} {G : List (List Nat)} {S : Nat → List (List Nat)} (ho : OnD 20 k dk) (h : MidK dk m G S) (hm : m < 20) (hn : S m = []) : MidK dk (m + 1) G S := by
  have h2 := h.2 m hm
  rw [if_neg (by omega), hn] at h2
  have h3 := applyP_last dk.pend dk.firm m (by rw [ho.1]; exact hm)
  rw [← h2] at h3
  constructor
  · intro i hi
    rw [h.1 i hi]
    by_cases e : i = m
    · subst e
      rw [if_neg (by omega), if_pos (by omega)]
      exact h3.symm
    · by_cases h4 : i < m
      · rw [if_pos h4, if_pos (by omega)]
      · rw [if_neg h4, if_neg (by omega)]
  · intro i hi
    rw [h.2 i hi]
    by_cases e : i = m
    · subst e
      rw [if_neg (by omega), if_pos (by omega)]
      exact h2.symm
    · by_cases h4 : i < m
      · rw [if_pos h4, if_pos (by omega)]
      · rw [if_neg h4, if_neg (by omega)]
theorem midK_some {dk : DK} {k m : Nat} {G : List (List Nat)} {S : Nat → List (List Nat)} (ho : OnD 20 k dk) (h : MidK dk m G S) (hm : m < 20) {p : List Nat} (hn : (S m).getLast? = some p) (hG : G.length = 20) : MidK dk (m + 1) (G.set m p) (fun i => if i = m then [] else S i) := by
  have h2 := h.2 m hm
  rw [if_neg (by omega)] at h2
  have h3 := applyP_last dk.pend dk.firm m (by rw [ho.1]; exact hm)
  rw [← h2] at h3
  rw [List.getLastD_eq_getLast?, hn] at h3
  constructor
  · intro i hi
    rw [getD_set _ _ _ _ (by rw [hG]; exact hm)]
    by_cases e : m = i
    · subst e
      rw [if_pos rfl, if_pos (by omega)]
      exact h3.symm
    · rw [if_neg e, h.1 i hi]
      by_cases h4 : i < m
      · rw [if_pos h4, if_pos (by omega)]
      · rw [if_neg h4, if_neg (by omega)]
  · intro i hi
    show (if i = m then [] else S i) = _
    by_cases e : i = m
    · subst e
      rw [if_pos rfl, if_pos (by omega)]
    · rw [if_neg e, h.2 i hi]
      by_cases h4 : i < m
      · rw [if_pos h4, if_pos (by omega)]
      · rw [if_neg h4, if_neg (by omega)]
theorem midK_end {dk : DK} {k : Nat} {G : List (List Nat)} {S : Nat → List (List Nat)} (ho : OnD 20 k dk) (hG : G.length = 20) (h : MidK dk 20 G S) : G = dk.cur ∧ ∀ i, i < 20 → S i = [] := by
  constructor
  · apply List.ext_getElem (by rw [hG, cur_length, ho.1])
    intro i h1 h2
    have h3 := h.1 i (by omega)
    rw [if_pos (by omega)] at h3
    simpa [List.getD, h1, h2] using h3
  · intro i hi
    rw [h.2 i hi, if_pos hi]
theorem crash_read {k : Nat} {dk : DK} (h : OnD 20 k dk) (pick : List Int) (i : Nat) (hi : i < 20) : (dk.crash pick).read (i : Int) = dk.firm.getD i zeroPg ∨ (dk.crash pick).read (i : Int) ∈ pendOf dk.pend i := by
  have h1 := crash_readE (n := 20) (k := k) ⟨h.1, h.2.1⟩ pick i hi
  have h2 : (dk.crash pick).read (i : Int) = (applyP dk.firm (pickP dk.pend pick 0)).getD i zeroPg := by
    unfold DK.read
    rw [if_pos h1]
    rfl
  rw [h2]
  exact crash_from dk.firm dk.pend pick i (fun x hx => by rw [h.1]; exact h.2.2.2.2 x hx)

theorem keeps_begin {W w1 w2 w3 : World} {db : Nat} (h1 : Below W.heap.size W w1) (h2 : Dk w1.heap.size w2 db (DK.new 20)) (h3 : Below w1.heap.size w1 w2) (h4 : IsBlk w3 w2.heap.size (List.replicate 1280 (Value.int .u8 0)).toArray 42) (h5 : Below w2.heap.size w2 w3) :
    KI W w1.heap.size db w2.heap.size w3.heap.size (w3.alloc (.cells (List.replicate 20 (Value.slice none 0 0)).toArray 44)) (DK.new 20) (DK.new 20).firm (List.replicate 20 (.slice none 0 0)) (pendOf (DK.new 20).pend) := by
  have hb : Below w2.heap.size w2 (w3.alloc (.cells (List.replicate 20 (Value.slice none 0 0)).toArray 44)) := h5.alloc h5.size _
  have hk := Kp.made h4 h3.size (Nat.le_trans h3.size h5.size)
  refine ⟨(h2.keep.below hb).fewer ?_, hk, (h1.trans (h3.mono h1.size)).trans (hb.mono (Nat.le_trans h1.size h3.size)), h1.size, Nat.le_trans h3.size hb.size⟩
  rintro k (rfl | rfl | ⟨v, hv, hk⟩)
  · exact Nat.le_refl _
  · exact h5.size
  · rw [List.eq_of_mem_replicate hv] at hk; cases hk
theorem new20 (w : World) : Calls Tryd.prog 10 #[.int .i64 20] w fun e w' => ∃ db, e = .returned (.tuple #[.pointer (some ⟨db, 0, none⟩), .nilIface]) ∧ Dk w.heap.size w' db (DK.new 20) ∧ Below w.heap.size w w' := new_D w 20 (by decide) (by decide)

set_option maxRecDepth 100000 in
set_option maxHeartbeats 4000000 in
theorem keeps_walk (v0 v1 : Value) (D0 D1 : D) (W : World) (r0 : RdV Tryd.prog W 22 v0 D0) (r1 : RdV Tryd.prog W 29 v1 D1) (hg : HasET W) :
    Calls Tryd.prog 5 #[v0, v1] W fun e w' => e = .returned (.bool true) ∧ Below W.heap.size W w' := by
  have hi1 : Tryd.prog.cellsOf 3 = 1 := by kernel_rfl
  have hy : Tryd.prog.bytesOf 3 = 8 := by kernel_rfl
  obtain ⟨ca, cc, l, rfl, hcc, hll, hcs⟩ := r0.callsK
  obtain ⟨pa, pn, pc, pz, rfl, -, hpn, hpc, -, hpb, -, hpi⟩ := r1.ints Tryd.underlying29 Tryd.underlying3 hi1
  subst hpn
  clear r0 r1 hi1 hy
  have HARG := Lib.hid (And.intro hcs hpi)
  have HLL := Lib.hid (And.intro hcc (And.intro hll (And.intro hpc hpb)))
  clear hcs hpi hcc hll hpb hpc
  go_enter Tryd.func5, Tryd.ntmps5
  go_upto_region 4 with (first
    | (go_at_call 9; (with_reducible refine (stands_any _).mono ?_); rintro e w1 ⟨rfl, hb1⟩; have HB1 := Lib.hid hb1; clear hb1)
    | (go_at_call 10; (with_reducible refine (new20 _).mono ?_); rintro e w2 ⟨db, rfl, h2, hb2⟩; have H2 := Lib.hid (And.intro h2 hb2); clear h2 hb2))
  go_upto_region 5 with (refine wpList_alloc_info (by rfl) 42 (by rfl) (.agg (List.replicate 1280 (Value.int .u8 0)).toArray) (List.replicate 1280 (Value.int .u8 0)).toArray (by kernel_rfl) rfl ?_)
  have hf3 := IsBlk.new w2 (List.replicate 1280 (Value.int .u8 0)).toArray 42
  have hb3 : Below w2.heap.size w2 (w2.alloc (.cells (List.replicate 1280 (Value.int .u8 0)).toArray 42)) := (Below.refl _ _).alloc (Nat.le_refl _) _
  change Code.wp _ _ _ _ (w2.alloc (.cells (List.replicate 1280 (Value.int .u8 0)).toArray 42))
  generalize w2.alloc (.cells (List.replicate 1280 (Value.int .u8 0)).toArray 42) = w3 at hf3 hb3 ⊢
  have H3 := Lib.hid (And.intro hf3 hb3)
  clear hf3 hb3
  go_upto_region 6 with (refine wpList_alloc_info (by rfl) 44 (by rfl) (.agg (List.replicate 20 (Value.slice none 0 0)).toArray) (List.replicate 20 (Value.slice none 0 0)).toArray (by kernel_rfl) rfl ?_)
  change Code.wp _ _ _ _ (w3.alloc (.cells (List.replicate 20 (Value.slice none 0 0)).toArray 44))
  have hki := keeps_begin HB1.out H2.out.1 H2.out.2 H3.out.1 H3.out.2
  generalize w3.alloc (.cells (List.replicate 20 (Value.slice none 0 0)).toArray 44) = w4 at hki ⊢
  have HK := Lib.hid hki
  clear hki
  generalize w2.heap.size = fb at *
  generalize w3.heap.size = sb at *
  go_upto_block 0 with fail
  go_cut [29] (fun _ wx => ∃ dk sv, Hid (OnD 20 1000 dk ∧ KI W w1.heap.size db fb sb wx dk dk.firm sv (pendOf dk.pend)))
  case first =>
    go_wp2_with fail
    go_loopw [29] (fun i wr => ∃ k : Nat, ∃ dk sv, k ≤ l.length ∧ k ≤ 200 ∧ i = .int .i64 k ∧ Hid (OnD 20 k dk ∧ KI W w1.heap.size db fb sb wr dk dk.firm sv (pendOf dk.pend))) (fun i _ => l.length - (intOf i).toNat)
    case atStart => exact ⟨0, _, _, by omega, by omega, rfl, onD_new 20, HK.out⟩
    case round =>
      obtain ⟨k, dk, sv, hk, hk2, rfl, HR⟩ := hrel
      by_cases hkl : k < l.length
      · obtain ⟨K, hK⟩ : ∃ K, l[k]? = some K := ⟨_, List.getElem?_eq_getElem hkl⟩
        have hcs := HARG.out.1.below HR.out.2.bel
        obtain ⟨b, off, rfl, hbl, hrg⟩ := hcs.at_.resolve_left (by rintro rfl; simp at hkl)
        have hrk := hrg k K hK
        have hok := hcs.ok K (List.mem_of_getElem? hK)
        have HC := Lib.hid (And.intro hrk hok)
        clear hrk hok hcs hrg hbl hK
        have hki : (k : Int) < (l.length : Int) := by omega
        have hkn : (0 : Int) ≤ (k : Int) := by omega
        go_upto_region 9 with (first
          | (refine wpList_load_mid_g (by rfl) 31 (.tmp 32) (by rfl) b (off + k * 4) (by rfl) K.cells _ HC.out.1 Tryd.underlying31 rfl (by kernel_rfl) ?_)
          | (refine wpList_alloc_info (by rfl) 31 (by rfl) (.agg callZ) callZ (by kernel_rfl) rfl ?_)
          | (refine wpList_store_row (by rfl) 31 (.tmp 10) (.tmp 33) (by rfl) _ K.cells.toArray (by rfl) (by rfl) 31 callZ (heap_alloc_new _ _) (call_info K) rfl (call_one K) ?_))
        have hv := call_var wr K
        generalize (wr.alloc (.cells callZ 31)).setRow wr.heap.size K.cells.toArray = w5 at hv ⊢
        have H5 := Lib.hid (And.intro hv.1 (HR.out.2.below hv.2))
        have HDN := Lib.hid ((HR.out.2.dk.widen (N' := fun n => KN fb sb sv n ∨ n = wr.heap.size) (fun n hn => hn.imp id (fun e => Nat.le_of_eq e.symm))).below hv.2)
        clear hv
        by_cases h200 : k = 200
        · subst h200
          go_wp2_with fail
          go_meet
          exact ⟨dk, sv, HR.out.1.more (by omega), H5.out.2⟩
        · have h200' : ((k : Int) == 200) = false := by simp; omega
          have c0 := H5.out.1.cell 0 (v := .int .i64 K.kd) rfl
          have c1 := H5.out.1.cell 1 (v := .int .i64 K.i) rfl
          have c2 := H5.out.1.cell 2 (v := .int .u8 (K.c : Int)) rfl
          obtain ⟨F, hF, eF⟩ := mod_pos K.i 20 (by decide) (by decide)
          rw [show ((20 : Nat) : Int) = 20 from rfl] at eF
          by_cases hk1 : K.kd = 1
          · rw [hk1] at c0
            have hwr := HDN.out.write (fun n hn => hn.elim (H5.out.2.kp.nlt n) (fun e => e ▸ H5.out.1.lt)) (F : Int) (pg2 K.c) (pg2_length K.c) (by have := HR.out.1.2.1; omega) H5.out.2.hs
            rw [(onD_write HR.out.1 F hF (pg2 K.c)).1] at hwr
            -- {
            go_upto_region 14 with (go_at_call 11; refine hwr.mono ?_; rintro e w6 ⟨v6, rfl, hr6, h6, hb6, hc6⟩; have H6 := Lib.hid (And.intro (H5.out.2.disk (h6.fewer (fun n hn => .inl hn)) hb6 (hc6.mono (fun n hn x => hn (.inl x)))) (hc6.blk H5.out.1 (fun x => x (.inr rfl)))); clear h6 hb6 hc6)
            clear hwr
            obtain ⟨v, hv1, hv2, hv3, hv4⟩ := H6.out.1.kp.someAt hF
            obtain ⟨sa, sc, rfl⟩ := hv4.slice
            have hpl : (pendOf dk.pend F).length ≤ 200 := by
              have h1 : (pendOf dk.pend F).length ≤ dk.pend.length := by unfold pendOf; rw [List.length_map]; exact List.length_filter_le _ _
              have := HR.out.1.2.1
              omega
            have HV := Lib.hid (And.intro hv1 (And.intro hpl hv4.2))
            have hFi : (F : Int) < 20 := by omega
            have hF0 : (0 : Int) ≤ (F : Int) := by omega
            have c6 := H6.out.2.cell 2 (v := .int .u8 (K.c : Int)) rfl
            clear hv1 hv4 hpl c2
            have hb8 : Below w6.heap.size w6 (w6.drew.alloc (.cells (nv .u8 (pg2 K.c)) 33)) := ((Below.refl _ _).drew).alloc (Nat.le_refl _) _
            have hsrc := pg_src w6.drew (pg2 K.c) (pg2_length K.c)
            have hrun8 := run_pg_slice w6.drew (pg2 K.c) (pg2_length K.c)
            have c8 : (w6.drew.alloc (.cells (nv .u8 (pg2 K.c)) 33)).cell? ⟨sb, F, none⟩ = some (.slice sa (pendOf dk.pend F).length sc) := (hb8.cell (p := ⟨sb, F, none⟩) (H6.out.1.kp.sm.lt)).trans hv2
            have z8 : (w6.drew.alloc (.cells (nv .u8 (pg2 K.c)) 33)).frozen? ⟨sb, F, none⟩ = false := (H6.out.1.below hb8).kp.sm.fz F
            have k8 : (w6.drew.alloc (.cells (nv .u8 (pg2 K.c)) 33)).cell? ⟨wr.heap.size, 2, none⟩ = some (.int .u8 (K.c : Int)) := (hb8.cell (p := ⟨wr.heap.size, 2, none⟩) (H6.out.2.lt)).trans c6
            refine wp_region_till 9 (S := fun w' => w'.cell? ⟨sb, F, none⟩ = some (.slice sa (pendOf dk.pend F).length sc) ∧ w'.cell? ⟨wr.heap.size, 2, none⟩ = some (.int .u8 (K.c : Int))) (by kernel_rfl) ⟨hv2, c6⟩ (fun hHeld => ?_)
            generalize w6.drew.alloc (.cells (nv .u8 (pg2 K.c)) 33) = w8 at hb8 hsrc hrun8 c8 z8 k8
            have H8 := Lib.hid (And.intro hb8 (And.intro hsrc (And.intro hrun8 (And.intro c8 (And.intro z8 k8)))))
            clear hb8 hsrc hrun8 c8 z8 k8 hv2 hv3 c6
            refine wpTill_take (i := 0) (v := ?_) rfl (by kernel_rfl) (by kernel_rfl) (by kernel_rfl) (by kernel_rfl) (fun _ _ _ h => h) (Or.inl ⟨by rfl, ?_⟩) (by with_reducible assumption) ?_
            rotate_left
            · intro w hSw; (try dsimp only at hSw); (try go_split_ands); go_simp; (try with_reducible rfl)
            (try simp only [Act.put, List.getElem_toArray, List.getElem_cons_succ, List.getElem_cons_zero, List.setIfInBounds_toArray, List.set_cons_zero, List.set_cons_succ])
            refine wpTill_take (i := 1) (v := ?_) rfl (by kernel_rfl) (by kernel_rfl) (by kernel_rfl) (by kernel_rfl) (fun _ _ _ h => h) (Or.inl ⟨by rfl, ?_⟩) (by with_reducible assumption) ?_
            rotate_left
            · intro w hSw; (try dsimp only at hSw); (try go_split_ands); go_simp; (try with_reducible rfl)
            (try simp only [Act.put, List.getElem_toArray, List.getElem_cons_succ, List.getElem_cons_zero, List.setIfInBounds_toArray, List.set_cons_zero, List.set_cons_succ])
            refine wpTill_take (i := 2) (v := ?_) rfl (by kernel_rfl) (by kernel_rfl) (by kernel_rfl) (by kernel_rfl) (fun _ _ _ h => h) (Or.inl ⟨by rfl, ?_⟩) (by with_reducible assumption) ?_
            rotate_left
            · intro w hSw; (try dsimp only at hSw); (try go_split_ands); go_simp; (try with_reducible rfl)
            (try simp only [Act.put, List.getElem_toArray, List.getElem_cons_succ, List.getElem_cons_zero, List.setIfInBounds_toArray, List.set_cons_zero, List.set_cons_succ])
            refine wpTill_take (i := 3) (v := ?_) rfl (by kernel_rfl) (by kernel_rfl) (by kernel_rfl) (by kernel_rfl) (fun _ _ _ h => h) (Or.inl ⟨by rfl, ?_⟩) (by with_reducible assumption) ?_
            rotate_left
            · intro w hSw; (try dsimp only at hSw); (try go_split_ands); go_simp; (try with_reducible rfl)
            (try simp only [Act.put, List.getElem_toArray, List.getElem_cons_succ, List.getElem_cons_zero, List.setIfInBounds_toArray, List.set_cons_zero, List.set_cons_succ])
            refine wpTill_take (i := 4) (v := ?_) rfl (by kernel_rfl) (by kernel_rfl) (by kernel_rfl) (by kernel_rfl) (fun _ _ _ h => h) (Or.inl ⟨by rfl, ?_⟩) (by with_reducible assumption) ?_
            rotate_left
            · intro w hSw; (try dsimp only at hSw); (try go_split_ands); go_simp; (try with_reducible rfl)
            (try simp only [Act.put, List.getElem_toArray, List.getElem_cons_succ, List.getElem_cons_zero, List.setIfInBounds_toArray, List.set_cons_zero, List.set_cons_succ])
            refine wpTill_take (i := 5) (v := ?_) rfl (by kernel_rfl) (by kernel_rfl) (by kernel_rfl) (by kernel_rfl) (fun _ _ _ h => h) (Or.inl ⟨by rfl, ?_⟩) (by with_reducible assumption) ?_
            rotate_left
            · intro w hSw; (try dsimp only at hSw); (try go_split_ands); go_simp; (try with_reducible rfl)
            (try simp only [Act.put, List.getElem_toArray, List.getElem_cons_succ, List.getElem_cons_zero, List.setIfInBounds_toArray, List.set_cons_zero, List.set_cons_succ])
            refine wpTill_take (i := 6) (v := ?_) rfl (by kernel_rfl) (by kernel_rfl) (by kernel_rfl) (by kernel_rfl) (fun _ _ _ h => h) (Or.inl ⟨by rfl, ?_⟩) (by with_reducible assumption) ?_
            rotate_left
            · intro w hSw; (try dsimp only at hSw); (try go_split_ands); go_simp; (try with_reducible rfl)
            (try simp only [Act.put, List.getElem_toArray, List.getElem_cons_succ, List.getElem_cons_zero, List.setIfInBounds_toArray, List.set_cons_zero, List.set_cons_succ])
            refine wpTill_ready (rs := [7]) (by kernel_rfl) (by simp) ?_
            refine TillAll.cons rfl (fun K9 hK9 => ?_) TillAll.nil
            rw [if_pos (by rfl)]
            simp only [List.getElem_toArray, List.getElem_cons_succ, List.getElem_cons_zero]
            refine wp_slice_one 43 (.tmp 57) (by rfl) _ _ (by rfl) H8.out.2.2.1 ?_
            refine hK9.out _ _ ⟨H8.out.2.2.2.1, H8.out.2.2.2.2.2⟩ (fun hHeld => ?_)
            clear hK9 K9
            (try simp only [Act.put, List.getElem_toArray, List.getElem_cons_succ, List.getElem_cons_zero, List.setIfInBounds_toArray, List.set_cons_zero, List.set_cons_succ])
            refine wpTill_ready (rs := [8]) (by kernel_rfl) (by simp) ?_
            refine TillAll.cons rfl (fun K9 hK9 => ?_) TillAll.nil
            obtain ⟨it, z, hi1, hi2, hi3, hi4, hi5⟩ := pg_typ
            refine step_append_src w8 (by rfl) (.tmp 54) (.tmp 58) 43 (by rfl) w1.heap.size 33 it z 64 64 Tryd.underlying43 hi1 hi2 hi3 hi4 (by rw [hi5]; rfl) (by decide) _ _ _ (by rfl) ((H6.out.1.below H8.out.1).kp.rows F _ HV.out.1).2 _ 1 1 (bv (pg2 K.c)) (by rfl) H8.out.2.1 (by intro e; cases e) (bv_one _) (by have := HV.out.2.1; unfold maxLen; omega) (by have := HV.out.2.1; omega) (Nat.le_trans H6.out.1.hs H8.out.1.size) fun v' w9 q1 q2 q3 => ?_
            have hfin := H6.out.1.page (pg2_length K.c) HV.out.1 H8.out.1 q1 q2 q3
            have hsb := H6.out.1.kp.row_ne (List.mem_of_getElem? HV.out.1)
            have c9 := (World.cell?_of_block (a := ⟨sb, F, none⟩) (q2.block sb (cell_lt H8.out.2.2.2.1) (fun e => hsb.2 e.symm))).trans H8.out.2.2.2.1
            have z9 := (World.frozen?_of_block (a := ⟨sb, F, none⟩) (q2.block sb (cell_lt H8.out.2.2.2.1) (fun e => hsb.2 e.symm))).trans H8.out.2.2.2.2.1
            have k9 := (World.cell?_of_block (a := ⟨wr.heap.size, 2, none⟩) (q2.block wr.heap.size (cell_lt H8.out.2.2.2.2.2) (fun e => (H6.out.1.kp.rows F _ HV.out.1).ne_blk H6.out.2 (by decide) e.symm))).trans H8.out.2.2.2.2.2
            obtain ⟨g', c', rfl⟩ := own_some q1
            have HF := Lib.hid hfin
            clear hfin q1 q2 q3 hi1 hi2 hi3 hi4 hi5
            refine hK9.out _ _ ⟨c9, k9⟩ (fun hHeld => ?_)
            clear hK9 K9
            (try simp only [Act.put, List.getElem_toArray, List.getElem_cons_succ, List.getElem_cons_zero, List.setIfInBounds_toArray, List.set_cons_zero, List.set_cons_succ])
            refine wpTill_last (by kernel_rfl) ?_
            refine wpAny_take (i := 9) (v := ?_) rfl (by kernel_rfl) (by kernel_rfl) (by kernel_rfl) (fun _ _ _ h => h) (Or.inl ⟨by rfl, ?_⟩) ?_
            rotate_left
            · intro w; go_simp; (try with_reducible rfl)
            (try simp only [Act.put, List.getElem_toArray, List.getElem_cons_succ, List.getElem_cons_zero, List.setIfInBounds_toArray, List.set_cons_zero, List.set_cons_succ])
            refine wpAny_ready (rs := [10]) (by kernel_rfl) (by simp) ?_
            refine AllReady.cons rfl (fun K9 hK9 => ?_) AllReady.nil
            go_simp
            refine hK9 _ _ ?_
            clear hK9 K9
            refine wpAny_done (by kernel_rfl) ?_ _
            go_wp2
            go_round
            case rel => exact ⟨k + 1, _, _, by omega, by omega, by go_num, onD_written HR.out.1 F hF _, HF.out.congr (fun j _ => (pendOf_write dk F _ j).symm)⟩
            case measure => simp [intOf]; omega
            -- }
          · by_cases hk2' : K.kd = 2
            · have hfl := H5.out.2.dk.flush (by have := HR.out.1.2.1; omega) H5.out.2.hs
              rw [(onD_flush HR.out.1).1] at hfl
              rw [hk2'] at c0
              -- {
              go_upto_region 17 with (go_at_call 12; refine hfl.mono ?_; rintro e w6 ⟨v6, rfl, hr6, h6, hb6, hc6⟩; have H6 := Lib.hid (H5.out.2.disk h6 hb6 hc6); clear h6 hb6 hc6)
              clear hfl
              have hcl : dk.cur.length = 20 := by rw [cur_length]; exact HR.out.1.1
              have HP := Lib.hid (fun i => applyP_last dk.pend dk.firm i)
              have HO := Lib.hid (onD_flush HR.out.1).2.2
              go_wp2_with fail
              go_loopw [65] (fun j w7 => ∃ m : Nat, ∃ G sv2 S, m ≤ 20 ∧ j = .int .i64 m ∧ Hid (KI W w1.heap.size db fb sb w7 { dk with firm := dk.cur, pend := [] } G sv2 S ∧ MidK dk m G S)) (fun j _ => 20 - (intOf j).toNat)
              case atStart => exact ⟨0, _, _, _, by omega, rfl, H6.out, midK_start dk⟩
              case round =>
                obtain ⟨m, G, sv2, S, hm, rfl, HM⟩ := hrel
                by_cases hm20 : m < 20
                · obtain ⟨v, hv1, hv2, hv3, hv4⟩ := HM.out.1.kp.someAt hm20
                  obtain ⟨sa, sc, rfl⟩ := hv4.slice
                  rcases hq : (S m).length with _ | q
                  · rw [hq] at hv2
                    have HQ := Lib.hid (List.eq_nil_of_length_eq_zero hq)
                    clear hv1 hv4 hq
                    go_wp2_with fail
                    go_round
                    case rel => exact ⟨m + 1, G, sv2, S, by omega, by go_num, HM.out.1, midK_none HR.out.1 HM.out.2 hm20 HQ.out⟩
                    case measure => simp [intOf]; omega
                  · have hqs : (S m)[q]? = some (S m)[q] := List.getElem?_eq_getElem (by omega)
                    generalize (S m)[q] = p at hqs
                    obtain ⟨g, c', e, hrg, _⟩ := hv4.range (by decide) hqs
                    injection e with e1 _ e3
                    subst e1 e3
                    have hpl : p.length = 64 := by have := hv4.1 p (List.mem_of_getElem? hqs); rwa [pgF_length] at this
                    have hcap : q + 1 ≤ sc := by
                      obtain ⟨g', cap', cur', e, _, _, h5, _⟩ := hv4.block (by intro e; rw [e] at hq; simp at hq)
                      injection e with _ _ e
                      subst e
                      omega
                    have hql : q ≤ 1000 := by
                      have h1 : (pendOf dk.pend m).length ≤ dk.pend.length := by unfold pendOf; rw [List.length_map]; exact List.length_filter_le _ _
                      have h2 := HM.out.2.2 m hm20
                      rw [if_neg (by omega)] at h2
                      rw [h2] at hq
                      have := HR.out.1.2.1
                      omega
                    have hst := HM.out.1.kp.firmAt hm20
                    have HS := Lib.hid (And.intro hrg (And.intro hpl (And.intro hst.2.1 (HM.out.1.settle hm20 hpl hv1))))
                    have HL := Lib.hid (midK_some HR.out.1 HM.out.2 hm20 (p := p) (by rw [List.getLast?_eq_getElem?, hq]; exact hqs) HM.out.1.kp.fl)
                    have hfs : fb ≠ sb := HM.out.1.kp.ne
                    have z3 : (wr.setCells fb (m * 64) (bv p)).frozen? ⟨sb, m, none⟩ = false := HM.out.1.kp.put hm20 hpl |>.1.sm.fz m
                    have c3 : (wr.setCells fb (m * 64) (bv p)).cell? ⟨sb, m, none⟩ = some (.slice (some ⟨g, 0, none⟩) (q + 1) sc) := ((HM.out.1.kp.put hm20 hpl).2.cell (p := ⟨sb, m, none⟩) HM.out.1.kp.sm.lt (fun e => hfs e.symm)).trans (by rw [hv2, hq])
                    rw [hq] at hv2
                    clear hv1 hv4 hqs hrg hst hpl hq
                    go_wp2_with (first
                      | (refine wpList_load_mid (by rfl) 33 (.tmp 81) (by rfl) g (q * 64) (by rfl) (bv p) _ HS.out.1 Tryd.underlying33 rfl (by rw [bv_length, HS.out.2.1]; kernel_rfl) ?_)
                      | (refine wpList_store_mid (by rfl) 33 (.tmp 83) (.tmp 82) (by rfl) fb (m * 64) (bv p).toArray (by rfl) (by rfl) (by rw [List.size_toArray, bv_length, HS.out.2.1]; exact HS.out.2.2.1) (by rw [List.size_toArray, bv_length, HS.out.2.1]; kernel_rfl) (all_oneCell_toArray (bv_one _)) ?_))
                    go_round
                    case rel => exact ⟨m + 1, _, _, _, by omega, by go_num, HS.out.2.2.2, HL.out⟩
                    case measure => simp [intOf]; omega
                · obtain rfl : m = 20 := by omega
                  obtain ⟨hG1, hG2⟩ := midK_end HR.out.1 HM.out.1.kp.fl HM.out.2
                  subst hG1
                  have HG := Lib.hid hG2
                  clear hG2
                  go_wp2_with fail
                  go_round
                  case rel => exact ⟨k + 1, _, sv2, by omega, by omega, by go_num, HO.out.more (by omega), HM.out.1.congr (fun j hj => (HG.out j hj).symm)⟩
                  case measure => simp [intOf]; omega
              -- }
            · have e1 : (K.kd == 1) = false := by simp; exact hk1
              have e2 : (K.kd == 2) = false := by simp; exact hk2'
              go_wp2_with fail
              go_round
              case rel => exact ⟨k + 1, dk, sv, by omega, by omega, by go_num, HR.out.1.more (by omega), H5.out.2⟩
              case measure => simp [intOf]; omega
      · go_wp2_with fail
        go_meet
        exact ⟨dk, sv, HR.out.1.more (by omega), HR.out.2⟩
  case rest =>
    obtain ⟨dk, sv, HR⟩ := hcut
    have hcr := HR.out.2.dk.dk.crash (by have := HR.out.1.2.1; omega) pa pz pc (HARG.out.2.below_ HR.out.2.bel) (by have := HLL.out; rw [show Tryd.prog.bytesOf 3 = 8 from by kernel_rfl] at this; simp only [reachBytes] at this; omega)
    have hre := fun j hj => crash_readE ⟨HR.out.1.1, HR.out.1.2.1⟩ pz j hj
    have hrd := fun j hj => crash_read HR.out.1 pz j hj
    have hpe := crash_pend dk pz
    have hof : (dk.crash pz).off = false := rfl
    -- {
    generalize dk.crash pz = x at *
    have HX := Lib.hid (And.intro hre (And.intro hrd (And.intro hpe hof)))
    clear hre hrd hpe hof
    go_upto_region 26 with (go_at_call 13; (with_reducible refine hcr.mono ?_); rintro e w3 ⟨xb, rfl, h3, hb3⟩; have H3 := Lib.hid (And.intro h3.zero (HR.out.2.below hb3)); clear h3 hb3)
    clear hcr
    go_wp2_with fail
    go_loopw [90] (fun i wr => ∃ m : Nat, m ≤ 20 ∧ i = .int .i64 m ∧ Hid (Dk 0 wr xb x ∧ KI W w1.heap.size db fb sb wr dk dk.firm sv (pendOf dk.pend))) (fun i _ => 20 - (intOf i).toNat)
    case atStart => exact ⟨0, by omega, rfl, H3.out⟩
    case round =>
      obtain ⟨m, hm, rfl, HM⟩ := hrel
      by_cases hlt : m < 20
      · have hrx := HM.out.1.read (m : Int)
        have hpl : (x.read (m : Int)).length = 64 := HM.out.1.read_length _
        have hpf := HX.out.2.1 m hlt
        rw [HX.out.1 m hlt] at hrx
        generalize x.read (m : Int) = p at *
        obtain ⟨-, -, hql⟩ := HM.out.2.kp.firmAt hlt
        have HPL := Lib.hid (And.intro hpl (And.intro hql hpf))
        clear hpl hpf hql
        go_upto_region 30 with (first
          | (go_at_call 15; (with_reducible refine hrx.mono ?_); rintro e w5 ⟨v5, rfl, hv5, hb5⟩; obtain rfl := res_nil hv5; have H5 := Lib.hid hb5; clear hb5)
          | (refine wpList_alloc_info (by rfl) 33 (by rfl) (.agg (nv .u8 zeroPg)) (nv .u8 zeroPg) (by kernel_rfl) rfl ?_)
          | (refine wpList_store_row (by rfl) 33 (.tmp 16) (.tmp 97) (by rfl) _ (nv .u8 p) (by rfl) (by rfl) 33 (nv .u8 zeroPg) (heap_alloc_new _ _) (info_pg _ HPL.out.1) (by rw [nv_size, nv_size, HPL.out.1]; rfl) (nv_one _ _) ?_))
        have hv1 := pg_var w5 p
        generalize (w5.alloc (.cells (nv .u8 zeroPg) 33)).setRow w5.heap.size (nv .u8 p) = w6 at hv1 ⊢
        have hb6 := H5.out.trans (hv1.2.mono H5.out.size)
        have H6 := Lib.hid (And.intro hv1.1 (And.intro (HM.out.1.below hb6) (HM.out.2.below hb6)))
        clear hv1 hb6 hrx
        generalize w5.heap.size = pb at *
        have hfa := H6.out.2.2.kp.firmAt hlt
        generalize dk.firm.getD m zeroPg = q at *
        refine wp_region_held_drew (S := fun w' => IsBlk w' pb (nv .u8 p) 33 ∧ w'.rangeAt fb (m * 64) (bv q)) (by kernel_rfl) ⟨H6.out.1, hfa.1⟩ (fun hHeld => ?_)
        clear hfa
        refine wpAnyH_take (i := 0) (v := .agg (bv p).toArray) rfl (by kernel_rfl) (by kernel_rfl) (by kernel_rfl) (fun _ _ _ h => h) (yieldsIf_load_mid (by rfl) 33 (.tmp 16) (by rfl) pb 0 (by rfl) (bv p) _ (fun w hS => range_blk hS.1) Tryd.underlying33 rfl (by rw [bv_length, HPL.out.1]; kernel_rfl)) (by with_reducible assumption) ?_
        (try simp only [Act.put, List.getElem_toArray, List.getElem_cons_succ, List.getElem_cons_zero, List.setIfInBounds_toArray, List.set_cons_zero, List.set_cons_succ])
        refine wpAnyH_take (i := 1) (v := ?_) rfl (by kernel_rfl) (by kernel_rfl) (by kernel_rfl) (fun _ _ _ h => h) (Or.inl ⟨by rfl, ?_⟩) (by with_reducible assumption) ?_
        rotate_left
        · intro w hSw; (try dsimp only at hSw); (try go_split_ands); go_simp; (try with_reducible rfl)
        (try simp only [Act.put, List.getElem_toArray, List.getElem_cons_succ, List.getElem_cons_zero, List.setIfInBounds_toArray, List.set_cons_zero, List.set_cons_succ])
        refine wpAnyH_take (i := 2) (v := ?_) rfl (by kernel_rfl) (by kernel_rfl) (by kernel_rfl) (fun _ _ _ h => h) (Or.inl ⟨by rfl, ?_⟩) (by with_reducible assumption) ?_
        rotate_left
        · intro w hSw; (try dsimp only at hSw); (try go_split_ands); go_simp; (try with_reducible rfl)
        (try simp only [Act.put, List.getElem_toArray, List.getElem_cons_succ, List.getElem_cons_zero, List.setIfInBounds_toArray, List.set_cons_zero, List.set_cons_succ])
        refine wpAnyH_take (i := 3) (v := .agg (bv q).toArray) rfl (by kernel_rfl) (by kernel_rfl) (by kernel_rfl) (fun _ _ _ h => h) (yieldsIf_load_mid (by rfl) 33 (.tmp 101) (by rfl) fb (m * 64) (by rfl) (bv q) _ (fun w hS => hS.2) Tryd.underlying33 rfl (by rw [bv_length, HPL.out.2.1]; kernel_rfl)) (by with_reducible assumption) ?_
        (try simp only [Act.put, List.getElem_toArray, List.getElem_cons_succ, List.getElem_cons_zero, List.setIfInBounds_toArray, List.set_cons_zero, List.set_cons_succ])
        refine wpAnyH_ready (rs := [4]) (by kernel_rfl) (by simp) ?_
        refine AllReadyH.cons rfl (fun K9 hK9 => ?_) AllReadyH.nil
        rw [if_pos (by rfl)]
        simp only [List.getElem_toArray, List.getElem_cons_succ, List.getElem_cons_zero]
        refine wp_eql_pg (.tmp 99) (.tmp 102) (by rfl) p q HPL.out.1 HPL.out.2.1 (by rfl) (by rfl) ?_
        refine hK9.out _ _ hHeld (fun hHeld => ?_)
        clear hK9 K9
        (try simp only [Act.put, List.getElem_toArray, List.getElem_cons_succ, List.getElem_cons_zero, List.setIfInBounds_toArray, List.set_cons_zero, List.set_cons_succ])
        refine wpAnyH_take (i := 5) (v := ?_) rfl (by kernel_rfl) (by kernel_rfl) (by kernel_rfl) (fun _ _ _ h => h) (Or.inl ⟨by rfl, ?_⟩) (by with_reducible assumption) ?_
        rotate_left
        · intro w hSw; (try dsimp only at hSw); (try go_split_ands); go_simp; (try with_reducible rfl)
        (try simp only [Act.put, List.getElem_toArray, List.getElem_cons_succ, List.getElem_cons_zero, List.setIfInBounds_toArray, List.set_cons_zero, List.set_cons_succ])
        refine wpAnyH_done (by kernel_rfl) ?_ _
        clear hHeld
        have HPF : Hid ((p == q) = true ∨ ∃ n, 0 ≤ n ∧ (pendOf dk.pend m)[n]? = some p) := Lib.hid (HPL.out.2.2.imp (fun e => by simp [e]) (fun e => by obtain ⟨n, hn, h⟩ := List.mem_iff_getElem.1 e; exact ⟨n, Nat.zero_le _, by rw [List.getElem?_eq_getElem hn, h]⟩))
        generalize (p == q) = ok at *
        obtain ⟨v, hv1, hv2, hv3, hv4⟩ := H6.out.2.2.kp.someAt hlt
        obtain ⟨sa, sc, rfl⟩ := hv4.slice
        have hpl : (pendOf dk.pend m).length ≤ 1000 := by
          have h1 : (pendOf dk.pend m).length ≤ dk.pend.length := by unfold pendOf; rw [List.length_map]; exact List.length_filter_le _ _
          have := HR.out.1.2.1
          omega
        have HV := Lib.hid hv1
        clear hv1 hv3 hv4
        have hv2d : w6.drew.cell? ⟨sb, m, none⟩ = some (.slice sa (pendOf dk.pend m).length sc) := hv2
        clear hv2
        go_wp2_with fail
        go_loopw [18, 108] (fun b i wr => ∃ n : Nat, ∃ ok : Bool, n ≤ (pendOf dk.pend m).length ∧ i = .int .i64 n ∧ b = .bool ok ∧ Hid (IsBlk wr pb (nv .u8 p) 33 ∧ Dk 0 wr xb x ∧ KI W w1.heap.size db fb sb wr dk dk.firm sv (pendOf dk.pend) ∧ (ok = true ∨ ∃ n', n ≤ n' ∧ (pendOf dk.pend m)[n']? = some p))) (fun _ i _ => (pendOf dk.pend m).length - (intOf i).toNat)
        case atStart => exact ⟨0, ok, by omega, rfl, rfl, H6.out.1, H6.out.2.1.below ((Below.refl _ _).drew), H6.out.2.2.below ((Below.refl _ _).drew), HPF.out⟩
        case round =>
          obtain ⟨n, ok, hn, rfl, rfl, HN⟩ := hrel
          by_cases hnl : n < (pendOf dk.pend m).length
          · have hq := List.getElem?_eq_getElem hnl
            generalize (pendOf dk.pend m)[n] = r at hq
            have hrow := HN.out.2.2.1.kp.rows m _ HV.out
            obtain ⟨g, c', e, hrg, _⟩ := hrow.range (by decide) hq
            injection e with e1 _ e3
            subst e1 e3
            have hrl : r.length = 64 := by have := hrow.1 r (List.mem_of_getElem? hq); rwa [pgF_length] at this
            have hcap : (pendOf dk.pend m).length ≤ sc := by
              obtain ⟨g', cap', cur', e, _, _, h5, _⟩ := hrow.block (by intro e; rw [e] at hnl; simp at hnl)
              injection e with _ _ e
              subst e
              exact h5
            have HR2 := Lib.hid (And.intro hrg (And.intro hrl hq))
            clear hrg hrl hq hrow
            go_upto_region 34 with (first
              | (refine wpList_load_mid (by rfl) 33 (.tmp 110) (by rfl) g (n * 64) (by rfl) (bv r) _ HR2.out.1 Tryd.underlying33 rfl (by rw [bv_length, HR2.out.2.1]; kernel_rfl) ?_)
              | (refine wpList_alloc_info (by rfl) 33 (by rfl) (.agg (nv .u8 zeroPg)) (nv .u8 zeroPg) (by kernel_rfl) rfl ?_)
              | (refine wpList_store_row (by rfl) 33 (.tmp 20) (.tmp 111) (by rfl) _ (nv .u8 r) (by rfl) (by rfl) 33 (nv .u8 zeroPg) (heap_alloc_new _ _) (info_pg _ HR2.out.2.1) (by rw [nv_size, nv_size, HR2.out.2.1]; rfl) (nv_one _ _) ?_))
            have hv1 := pg_var wr r
            generalize (wr.alloc (.cells (nv .u8 zeroPg) 33)).setRow wr.heap.size (nv .u8 r) = w8 at hv1 ⊢
            have H8 := Lib.hid (And.intro hv1.1 (And.intro (HN.out.1.below hv1.2 HN.out.1.lt) (And.intro (HN.out.2.1.below hv1.2) (HN.out.2.2.1.below hv1.2))))
            clear hv1
            cases ok with
            | true =>
              go_wp2_with fail
              go_round
              case rel => exact ⟨n + 1, true, by omega, by go_num, rfl, H8.out.2.1, H8.out.2.2.1, H8.out.2.2.2, .inl rfl⟩
              case measure => simp [intOf]; omega
            | false =>
              have HE : Hid ((p == r) = true ∨ ∃ n', n + 1 ≤ n' ∧ (pendOf dk.pend m)[n']? = some p) := Lib.hid (by
                rcases HN.out.2.2.2 with h | ⟨n', h1, h2⟩
                · cases h
                · by_cases e : n' = n
                  · subst e
                    have := HR2.out.2.2.symm.trans h2
                    left; simp [Option.some.inj this]
                  · exact .inr ⟨n', by omega, h2⟩)
              go_wp2_with (first
                | (refine wpList_load_row_g (by rfl) 33 (.tmp 16) (by rfl) pb (by rfl) 33 (nv .u8 p) (0, 0) _ H8.out.2.1 Tryd.underlying33 rfl (info_pg _ HPL.out.1) ?_)
                | (refine wpList_load_row_g (by rfl) 33 (.tmp 20) (by rfl) wr.heap.size (by rfl) 33 (nv .u8 r) (0, 0) _ H8.out.1 Tryd.underlying33 rfl (info_pg _ HR2.out.2.1) ?_)
                | (refine wpList_eql_pg (by rfl) (.tmp 114) (.tmp 115) (by rfl) p r HPL.out.1 HR2.out.2.1 (by rfl) (by rfl) ?_))
              go_round
              case rel => exact ⟨n + 1, _, by omega, by go_num, rfl, H8.out.2.1, H8.out.2.2.1, H8.out.2.2.2, HE.out⟩
              case measure => simp [intOf]; omega
          · have hok : ok = true := by
              rcases HN.out.2.2.2 with h | ⟨n', h1, h2⟩
              · exact h
              · have := (List.getElem?_eq_some_iff.1 h2).1; omega
            subst hok
            go_wp2_with fail
            go_round
            case rel => exact ⟨m + 1, by omega, by go_num, HN.out.2.1, HN.out.2.2.1⟩
            case measure => simp [intOf]; omega
      · obtain rfl : m = 20 := by omega
        have hpx := HM.out.1.pending
        have hox := HM.out.1.off
        rw [HX.out.2.2.1] at hpx
        rw [HX.out.2.2.2] at hox
        go_wp2_with (first
          | (go_at_call 18; (with_reducible refine hpx.mono ?_); rintro e w' ⟨rfl, rfl⟩)
          | (go_at_call 17; (with_reducible refine hox.mono ?_); rintro e w' ⟨rfl, rfl⟩))
        go_ret
        exact ⟨rfl, HM.out.2.bel⟩
    -- }
end Go.Proofs.YtjmjfgbpjecgfaaDoor
