/-
  ring: rows of changes, told and made; structs compared with themselves.
-/
import Derived.Test.YtkabkehfckbhcaaDoorZRgOpen
import Derived.Test.YtkabkehfckbhcaaDoorZRgLawP
namespace Go.Proofs.YtkabkehfckbhcaaDoor
set_option linter.unusedVariables false
set_option linter.unusedSimpArgs false
open Go.RowKit

theorem chg_typ : ∃ it z, Tryd.prog.info? 79 = some it ∧ it.zero = some z ∧ it.size = 65 ∧ it.bytes = 72 ∧ z.cells = (chF (0, zeroPg)).toArray := by
  have h : (Tryd.prog.info? 79).bind (fun it => it.zero.map fun z => (it.size, it.bytes, z.cells)) = some (65, 72, (chF (0, zeroPg)).toArray) := by kernel_rfl
  obtain ⟨it, h1, h⟩ := Option.bind_eq_some_iff.1 h
  obtain ⟨z, h2, h3⟩ := Option.map_eq_some_iff.1 h
  injection h3 with h3 h4
  injection h4 with h4 h5
  exact ⟨it, z, h1, h2, h3, h4, h5⟩
theorem chg_built (z : Int) (p : List Nat) (hp : p.length = 64) : Tryd.prog.built 79 [(0, .int .i64 z), (1, .agg (nv .u8 p))] = some (chF (z, p)).toArray :=
  built_of (n := 65) (ps := [(0, 1), (1, 64)]) (by kernel_rfl) (by kernel_rfl) fun cells hc => by
    have hn : (nv .u8 p).size = 64 := by rw [nv_size]; exact hp
    exact fill_two _ _ _ rfl (nv .u8 p) rfl (by rw [hn]; rfl) (by rw [hn]; exact hc)
set_option maxRecDepth 100000 in
theorem chg_run_slice (w : World) (c : CH) (hc : c.2.length = 64) : (Instr.buildSlice 46 1 #[(0, .agg (chF c).toArray)]).run Tryd.prog w = .ok (.slice (some ⟨w.heap.size, 0, none⟩) 1 1) (w.alloc (.cells (chF c).toArray 79)) := by
  obtain ⟨it, z, h1, h2, h3, h4, h5⟩ := chg_typ
  have hz : z.cells.size = 65 := by rw [h5]; rfl
  have hn : (chF c).toArray.size = 65 := by rw [List.size_toArray]; exact chF_length c hc
  refine run_buildSlice w _ 79 1 _ _ it z Tryd.underlying46 h1 h2 (by rw [h3]; omega) (by rw [h3]; omega) ?_
  have hsz : ((Array.range (1 * it.size)).map (fun x => z.cells[x % z.cells.size]!)).size = (chF c).toArray.size := by rw [Array.size_map, Array.size_range, h3, hn]
  exact fill_one _ _ _ (by rw [hn, h3]) hsz
theorem chg_wp_slice {ops : Array Oper} {rest : List Oper} {o : Oper} {a : Act} {w : World} {Q : Exit → Act → World → Prop} (hgd : o.guard = none) (x : Operand) (ho : o.op = .buildSlice 46 1 #[(0, x)]) (c : CH) (hc : c.2.length = 64) (hx : a.eval x = .agg (chF c).toArray)
    (h : wpList Tryd.prog ops Q rest (a.put o.dst (.slice (some ⟨w.heap.size, 0, none⟩) 1 1)) (w.alloc (.cells (chF c).toArray 79))) : wpList Tryd.prog ops Q (o :: rest) a w :=
  wpList_plain hgd fun K hK => wp_slice_one 46 x ho _ _ hx (chg_run_slice w c hc) (hK _ _ h)
theorem chg_src (w : World) (c : CH) (hc : c.2.length = 64) : Src (w.alloc (.cells (chF c).toArray 79)) 65 (some ⟨w.heap.size, 0, none⟩) 1 (chF c) := by
  refine ⟨by rw [chF_length c hc], (fun h => by cases h), ?_⟩
  rintro ad ⟨rfl⟩ j u hu
  rw [Addr.add_mid, Nat.zero_add]
  refine (IsBlk.new w (chF c).toArray 79).cell j ?_
  rw [List.getElem?_toArray]
  exact hu
theorem chg_wp_app {ops : Array Oper} {rest : List Oper} {o : Oper} {a : Act} {wr : World} {Q : Exit → Act → World → Prop} {base : Nat} {pa : Option Addr} {pc n : Nat} {l : List CH} {c : CH} (hgd : o.guard = none) (s x : Operand)
    (ho : o.op = .call { callee := .builtin .append, args := #[s, x], argTypes := #[46, 46] }) (h : RowF wr base 79 65 chF (.slice pa n pc) l) (hn : l.length = n) (hc : c.2.length = 64) (hs : a.eval s = .slice pa n pc) (hx : a.eval x = .slice (some ⟨wr.heap.size, 0, none⟩) 1 1) (hL : n ≤ 10000) (hB : base ≤ wr.heap.size)
    (K : ∀ v' w', RowF w' base 79 65 chF v' (l ++ [c]) → Below base wr w' → wpList Tryd.prog ops Q rest (a.put o.dst v') w') : wpList Tryd.prog ops Q (o :: rest) a (wr.alloc (.cells (chF c).toArray 79)) := by
  obtain ⟨it, z, hi1, hi2, hi3, hi4, hi5⟩ := chg_typ
  have hb : Below wr.heap.size wr (wr.alloc (.cells (chF c).toArray 79)) := (Below.refl _ _).alloc (Nat.le_refl _) _
  have hown := (h.below hb).2
  rw [hn] at hown
  refine wpList_append_src _ hgd s x 46 ho base 79 it z 65 72 Tryd.underlying46 hi1 hi2 hi3 hi4 (by rw [hi5]; rfl) (by decide) _ n _ hs hown _ 1 1 (chF c) hx (chg_src wr c hc) (by intro e; cases e) (chF_one c) (by unfold maxLen; omega) (by omega) (Nat.le_trans hB hb.size) fun v' w' q1 q2 q3 => ?_
  rw [← hn] at q1
  refine K v' w' ⟨fun y hy => ?_, ?_⟩ ((hb.mono hB).grown q2 (Nat.le_trans hB hb.size) (fun k hk => h.base_le k hk))
  · rcases List.mem_append.1 hy with hy | hy
    · exact h.1 y hy
    · rw [List.mem_singleton.1 hy]; exact chF_length c hc
  · rw [List.length_append, List.flatMap_append]
    simpa using q1
theorem rch_typ : ∃ it z, Tryd.prog.info? 93 = some it ∧ it.zero = some z ∧ it.size = 65 ∧ it.bytes = 72 ∧ z.cells = (chF (0, zeroPg)).toArray := by
  have h : (Tryd.prog.info? 93).bind (fun it => it.zero.map fun z => (it.size, it.bytes, z.cells)) = some (65, 72, (chF (0, zeroPg)).toArray) := by kernel_rfl
  obtain ⟨it, h1, h⟩ := Option.bind_eq_some_iff.1 h
  obtain ⟨z, h2, h3⟩ := Option.map_eq_some_iff.1 h
  injection h3 with h3 h4
  injection h4 with h4 h5
  exact ⟨it, z, h1, h2, h3, h4, h5⟩
theorem rch_built (z : Int) (p : List Nat) (hp : p.length = 64) : Tryd.prog.built 93 [(0, .int .i64 z), (1, .agg (nv .u8 p))] = some (chF (z, p)).toArray :=
  built_of (n := 65) (ps := [(0, 1), (1, 64)]) (by kernel_rfl) (by kernel_rfl) fun cells hc => by
    have hn : (nv .u8 p).size = 64 := by rw [nv_size]; exact hp
    exact fill_two _ _ _ rfl (nv .u8 p) rfl (by rw [hn]; rfl) (by rw [hn]; exact hc)
set_option maxRecDepth 100000 in
theorem rch_run_slice (w : World) (c : CH) (hc : c.2.length = 64) : (Instr.buildSlice 44 1 #[(0, .agg (chF c).toArray)]).run Tryd.prog w = .ok (.slice (some ⟨w.heap.size, 0, none⟩) 1 1) (w.alloc (.cells (chF c).toArray 93)) := by
  obtain ⟨it, z, h1, h2, h3, h4, h5⟩ := rch_typ
  have hz : z.cells.size = 65 := by rw [h5]; rfl
  have hn : (chF c).toArray.size = 65 := by rw [List.size_toArray]; exact chF_length c hc
  refine run_buildSlice w _ 93 1 _ _ it z Tryd.underlying44 h1 h2 (by rw [h3]; omega) (by rw [h3]; omega) ?_
  have hsz : ((Array.range (1 * it.size)).map (fun x => z.cells[x % z.cells.size]!)).size = (chF c).toArray.size := by rw [Array.size_map, Array.size_range, h3, hn]
  exact fill_one _ _ _ (by rw [hn, h3]) hsz
theorem rch_wp_slice {ops : Array Oper} {rest : List Oper} {o : Oper} {a : Act} {w : World} {Q : Exit → Act → World → Prop} (hgd : o.guard = none) (x : Operand) (ho : o.op = .buildSlice 44 1 #[(0, x)]) (c : CH) (hc : c.2.length = 64) (hx : a.eval x = .agg (chF c).toArray)
    (h : wpList Tryd.prog ops Q rest (a.put o.dst (.slice (some ⟨w.heap.size, 0, none⟩) 1 1)) (w.alloc (.cells (chF c).toArray 93))) : wpList Tryd.prog ops Q (o :: rest) a w :=
  wpList_plain hgd fun K hK => wp_slice_one 44 x ho _ _ hx (rch_run_slice w c hc) (hK _ _ h)
theorem rch_src (w : World) (c : CH) (hc : c.2.length = 64) : Src (w.alloc (.cells (chF c).toArray 93)) 65 (some ⟨w.heap.size, 0, none⟩) 1 (chF c) := by
  refine ⟨by rw [chF_length c hc], (fun h => by cases h), ?_⟩
  rintro ad ⟨rfl⟩ j u hu
  rw [Addr.add_mid, Nat.zero_add]
  refine (IsBlk.new w (chF c).toArray 93).cell j ?_
  rw [List.getElem?_toArray]
  exact hu
theorem rch_wp_app {ops : Array Oper} {rest : List Oper} {o : Oper} {a : Act} {wr : World} {Q : Exit → Act → World → Prop} {base : Nat} {pa : Option Addr} {pc n : Nat} {l : List CH} {c : CH} (hgd : o.guard = none) (s x : Operand)
    (ho : o.op = .call { callee := .builtin .append, args := #[s, x], argTypes := #[44, 44] }) (h : RowF wr base 93 65 chF (.slice pa n pc) l) (hn : l.length = n) (hc : c.2.length = 64) (hs : a.eval s = .slice pa n pc) (hx : a.eval x = .slice (some ⟨wr.heap.size, 0, none⟩) 1 1) (hL : n ≤ 10000) (hB : base ≤ wr.heap.size)
    (K : ∀ v' w', RowF w' base 93 65 chF v' (l ++ [c]) → Below base wr w' → wpList Tryd.prog ops Q rest (a.put o.dst v') w') : wpList Tryd.prog ops Q (o :: rest) a (wr.alloc (.cells (chF c).toArray 93)) := by
  obtain ⟨it, z, hi1, hi2, hi3, hi4, hi5⟩ := rch_typ
  have hb : Below wr.heap.size wr (wr.alloc (.cells (chF c).toArray 93)) := (Below.refl _ _).alloc (Nat.le_refl _) _
  have hown := (h.below hb).2
  rw [hn] at hown
  refine wpList_append_src _ hgd s x 44 ho base 93 it z 65 72 Tryd.underlying44 hi1 hi2 hi3 hi4 (by rw [hi5]; rfl) (by decide) _ n _ hs hown _ 1 1 (chF c) hx (rch_src wr c hc) (by intro e; cases e) (chF_one c) (by unfold maxLen; omega) (by omega) (Nat.le_trans hB hb.size) fun v' w' q1 q2 q3 => ?_
  rw [← hn] at q1
  refine K v' w' ⟨fun y hy => ?_, ?_⟩ ((hb.mono hB).grown q2 (Nat.le_trans hB hb.size) (fun k hk => h.base_le k hk))
  · rcases List.mem_append.1 hy with hy | hy
    · exact h.1 y hy
    · rw [List.mem_singleton.1 hy]; exact chF_length c hc
  · rw [List.length_append, List.flatMap_append]
    simpa using q1

set_option maxRecDepth 100000 in
set_option maxHeartbeats 4000000 in
/-- told: the same changes, as the document's. -/
theorem told_any (W : World) (ca : Option Addr) (cc n : Nat) (l : List CH) (h : IsChs W ca l) (hn : n = l.length) (hl : l.length ≤ 1000) : Calls Tryd.prog 13 #[.slice ca n cc] W fun e w' => ∃ v, e = .returned v ∧ RowF w' W.heap.size 93 65 chF v l ∧ Below W.heap.size W w' := by
  have HH := Lib.hid (And.intro h (And.intro hn hl))
  have hn2 : n ≤ 1000 := by omega
  clear h hn hl
  go_enter Tryd.func13, Tryd.ntmps13
  go_wp2
  go_loopw [3, 8] (fun v i wr => ∃ j : Nat, j ≤ n ∧ i = .int .i64 j ∧ Hid (RowF wr W.heap.size 93 65 chF v (l.take j) ∧ Below W.heap.size W wr)) (fun _ i _ => n - (intOf i).toNat)
  case atStart => exact ⟨0, by omega, rfl, by rw [List.take_zero]; exact RowF.nil _ _ _ _ _, Below.refl _ _⟩
  case round =>
    obtain ⟨j, hj, rfl, HR⟩ := hrel
    obtain ⟨pa, pc, e⟩ := HR.out.1.slice
    obtain ⟨pn, hpn⟩ : ∃ pn, pn = (l.take j).length := ⟨_, rfl⟩
    rw [← hpn] at e
    have HPN := Lib.hid hpn
    subst e
    have hpl : pn ≤ 1000 := by rw [hpn, List.length_take]; omega
    clear hpn
    by_cases hjl : j < n
    · obtain ⟨c, hc⟩ : ∃ c, l[j]? = some c := ⟨_, List.getElem?_eq_getElem (by rw [← HH.out.2.1]; exact hjl)⟩
      obtain ⟨b, off, rfl, hbl, hrg⟩ := (HH.out.1.below HR.out.2).at_.resolve_left (by rintro rfl; simp at hc)
      have hcok := HH.out.1.ok c (List.mem_of_getElem? hc)
      have HC := Lib.hid (And.intro (hrg j c hc) (And.intro hcok.len hc))
      clear hrg hbl hcok hc
      have j1 : (j : Int) < (n : Int) := by omega
      go_upto_region 5 with (first
        | (refine wpList_load_mid (by rfl) 79 (.tmp 10) (by rfl) b (off + j * 65) (by rfl) (chF c) _ HC.out.1 Tryd.underlying79 rfl (ch_info' c HC.out.2.1) ?_)
        | (refine wpList_alloc_info (by rfl) 79 (by rfl) (.agg zeroCh) zeroCh (by kernel_rfl) rfl ?_)
        | (refine wpList_store_row (by rfl) 79 (.tmp 5) (.tmp 11) (by rfl) _ (chF c).toArray (by rfl) (by rfl) 79 zeroCh (heap_alloc_new _ _) (ch_info c HC.out.2.1) (ch_sizes c HC.out.2.1) (all_oneCell_toArray (chF_one c)) ?_))
      have hv := ch_var wr c 79
      generalize (wr.alloc (.cells zeroCh 79)).setRow wr.heap.size (chF c).toArray = w4 at hv ⊢
      have hrw : w4.rangeAt wr.heap.size 1 (bv c.2) := isBlk_range hv.1 1 (fun k v hv => by rw [Nat.add_comm]; exact hv)
      have hra := hv.1.cell 0 (v := .int .i64 c.1) rfl
      have H4 := Lib.hid (And.intro hrw (And.intro (HR.out.1.below hv.2) (HR.out.2.trans (hv.2.mono HR.out.2.size))))
      clear hv hrw
      generalize wr.heap.size = cb at *
      go_wp2_with (first
        | (refine wpList_load_mid (by rfl) 48 (.tmp 15) (by rfl) cb 1 (by rfl) (bv c.2) _ H4.out.1 Tryd.underlying48 rfl (by rw [bv_length, HC.out.2.1]; kernel_rfl) ?_)
        | (refine wpList_build (by rfl) 93 #[(0, .tmp 14), (1, .tmp 16)] (by rfl) (chF c).toArray (rch_built c.1 c.2 HC.out.2.1) ?_)
        | (refine rch_wp_slice (by rfl) (.tmp 17) (by rfl) c HC.out.2.1 (by rfl) ?_)
        | (refine rch_wp_app (by rfl) (.tmp 12) (.tmp 18) (by rfl) H4.out.2.1 HPN.out.symm HC.out.2.1 (by rfl) (by rfl) (by omega) H4.out.2.2.size fun v' w7 q1 q2 => ?_; have H7 := Lib.hid (And.intro q1 (H4.out.2.2.trans q2)); clear q1 q2))
      go_round
      case rel => exact ⟨j + 1, by omega, by go_num, by rw [List.take_add_one, HC.out.2.2]; exact H7.out.1, H7.out.2⟩
      case measure => simp [intOf]; omega
    · obtain rfl : j = n := by omega
      have hfin := HR.out
      rw [HH.out.2.1, List.take_length] at hfin
      have HF := Lib.hid hfin
      clear hfin
      go_wp2_with fail
      go_ret
      exact ⟨_, rfl, HF.out⟩
end Go.Proofs.YtkabkehfckbhcaaDoor
