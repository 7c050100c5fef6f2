/-
  ring: stands.
-/
import Derived.Test.YtkabkehfckbhcaaDoorZRgSame
import Derived.Deep.QuietTactic
namespace Go.Proofs.YtkabkehfckbhcaaDoor
set_option linter.unusedVariables false
set_option linter.unusedSimpArgs false
open Go.RowKit

theorem new200 (w : World) : Calls Tryd.prog 9 #[.int .i64 200] w fun e w' => ∃ db, e = .returned (.tuple #[.pointer (some ⟨db, 0, none⟩), .nilIface]) ∧ Dk w.heap.size w' db (DK.new 200) ∧ Below w.heap.size w w' := new_D w 200 (by decide) (by decide)
theorem markL_eq (s : RS) : Value.agg (markL s).toArray = markV s.place s.num s.last := rfl
theorem num_zero (W : World) : Calls Tryd.prog 20 #[.nilIface] W fun ev w' => ev = .returned (.int .i64 0) ∧ w' = W := by
  go_enter Tryd.func20, Tryd.ntmps20
  go_wp2
  go_ret
  exact ⟨rfl, rfl⟩
theorem built_zero_mark : Tryd.prog.built 25 [] = some (markL zeroM).toArray := by kernel_rfl
set_option maxRecDepth 100000 in
theorem built_pg9 : Tryd.prog.built 48 [(0, .int .u8 9)] = some (nv .u8 (pg3 9 0 0)) := by kernel_rfl
theorem Dk.base {B B' : Nat} {w : World} {db : Nat} {d : DK} (h : Dk B w db d) (hb : B' ≤ B) : Dk B' w db d := by
  obtain ⟨fb, mb, cap, cv, h⟩ := h
  exact ⟨fb, mb, cap, cv, h.base_mono hb⟩
/-- A ring and its disk, side by side. -/
structure RD (B : Nat) (w : World) (rg db : Nat) (s : RS) (n kk : Nat) (d : DK) : Prop where
  ex : ∃ N : Nat → Prop, DkN N B w db d ∧ N rg ∧ ∀ k, N k → k < w.heap.size
  isrg : IsRg 100 w rg db s
  ok : RSok s n
  on : OnB n kk d
  hB : B ≤ w.heap.size
  hrg : B ≤ rg
section
variable {B : Nat} {w w' : World} {rg db : Nat} {s : RS} {n kk : Nat} {d : DK}
theorem RD.below (h : RD B w rg db s n kk d) (hb : Below w.heap.size w w') : RD B w' rg db s n kk d := by
  obtain ⟨N, h1, h2, h3⟩ := h.ex
  exact ⟨⟨N, h1.below hb, h2, fun k hk => Nat.lt_of_lt_of_le (h3 k hk) hb.size⟩, h.isrg.below hb, h.ok, h.on, Nat.le_trans h.hB hb.size, h.hrg⟩
theorem RD.dk (h : RD B w rg db s n kk d) : Dk B w db d := by
  obtain ⟨N, h1, _⟩ := h.ex
  exact h1.dk
theorem RD.of_open {W : World} {v : Value} {L : List (List CH)} (hdk : Dk B W db d) (h : OpenI W w rg db s v L n kk d) (hB : B ≤ W.heap.size) : RD B w rg db s n kk d :=
  ⟨⟨fun k => W.heap.size ≤ k ∧ k < w.heap.size, (hdk.keep.below h.bel).fewer (fun k hk => hk.1), ⟨h.hrb, IsBlk.lt h.rg⟩, fun k hk => hk.2⟩, h.rg, h.ok, h.on, Nat.le_trans hB h.bel.size, Nat.le_trans hB h.hrb⟩
theorem RD.add (h : RD B w rg db s n kk d) {ca : Option Addr} {cc : Nat} {l : List CH} (hc : IsChs w ca l) (h1 : 1 ≤ l.length) (h2 : l.length ≤ 60) (hf : takes l.length ≤ s.n - s.used) (hk : kk ≤ 100000) :
    Calls Tryd.prog 24 #[.pointer (some ⟨rg, 0, none⟩), .slice ca l.length cc] w fun e w' => e = .returned .nilIface ∧ RD B w' rg db (s.behind l.length (recSum s.last s.num l)) n (kk + takes l.length) (putAll s (recPgs s.last s.num l) 0 d) ∧ Below B w w' := by
  obtain ⟨N, q1, q2, q3⟩ := h.ex
  refine (add_ok (N := N) (B := B) ⟨h.isrg, h.ok, q1, h.on, hk, hc, h1, h2, hf, q2, q3, h.hB, h.hrg⟩).mono ?_
  rintro e w' ⟨he, r1, r2, r3, r4⟩
  have hon := putAll_on h.ok (recPgs s.last s.num l) 0 kk d h.on (recPgs_ok hc.ok)
  rw [recPgs_length] at hon
  exact ⟨he, ⟨⟨N, r2, q2, fun k hk => Nat.lt_of_lt_of_le (q3 k hk) r3.size⟩, r1, h.ok.behind _ hf _, hon, Nat.le_trans h.hB r4.size, h.hrg⟩, r4⟩
theorem RD.cut (h : RD B w rg db s n kk d) (m : List Nat) (hm : m.length = 32) (hmb : ∀ c ∈ m, c < 256) :
    Calls Tryd.prog 28 #[.pointer (some ⟨rg, 0, none⟩), .agg (nv .u8 m)] w fun e w' => (∃ v, e = .returned v) ∧ RD B w' rg db { s with last := m, used := 0 } n kk d ∧ Below B w w' := by
  obtain ⟨N, q1, q2, q3⟩ := h.ex
  refine (cut_any h.isrg h.ok.len m hm).mono ?_
  rintro e w' ⟨he, r1, r2⟩
  exact ⟨he, ⟨⟨N, q1.but' r2 (fun k hk => hk ▸ q2), q2, fun k hk => Nat.lt_of_lt_of_le (q3 k hk) r2.size⟩, r1, ⟨h.ok.n1, h.ok.n2, h.ok.fit, h.ok.place, h.ok.num, hm, hmb, Nat.zero_le _⟩, h.on, Nat.le_trans h.hB r2.size, h.hrg⟩, r2.below h.hB (fun k hk => hk ▸ h.hrg)⟩
end
theorem wpList_load_mid_g {P : Program} {ops : Array Oper} {rest : List Oper} {op : Oper} {a : Act} {w : World} {Q : Exit → Act → World → Prop} (hw : Region.wanted op (yielded ops a.tmps) = true) (ty : TypeId) (x : Operand) (ho : op.op = .load ty x)
    (b o : Nat) (hx : a.eval x = .pointer (some ⟨b, o, none⟩)) (cs : List Value) (d : TypeDesc) (hc : w.rangeAt b o cs)
    (hu : P.underlying ty = some d) (hd : d.isRow = true) (hi : (P.info? ty).map (·.size) = some cs.length)
    (h : wpList P ops Q rest (a.put op.dst (.agg cs.toArray)) w) : wpList P ops Q (op :: rest) a w :=
  wpList_wanted hw fun _ hK => wp_load_mid ty x ho b o hx cs d hc hu hd hi (hK _ _ h)
theorem wpList_build_g {P : Program} {ops : Array Oper} {rest : List Oper} {o : Oper} {a : Act} {w : World} {Q : Exit → Act → World → Prop} (hw : Region.wanted o (yielded ops a.tmps) = true) (t : TypeId) (parts : Array (Nat × Operand)) (ho : o.op = .build t parts) (cells : Array Value)
    (hb : P.built t (parts.toList.map fun (i, x) => (i, a.eval x)) = some cells) (h : wpList P ops Q rest (a.put o.dst (.agg cells)) w) : wpList P ops Q (o :: rest) a w :=
  wpList_wanted hw fun K hK => by
    rw [← Array.toList_map] at hb
    unfold Oper.wp execOp
    simp only [ho, Sem.run_bind, run_build w t _ cells hb, Result.andThen_ok]
    exact hK _ _ h
theorem wpList_eq_self_g {P : Program} {ops : Array Oper} {rest : List Oper} {o : Oper} {a : Act} {w : World} {Q : Exit → Act → World → Prop} (hw : Region.wanted o (yielded ops a.tmps) = true) (t : TypeId) (x y : Operand) (ho : o.op = .binOp .eql t x y t) (cs : Array Value) (hm : P.eqGuardType P.depth t = false) (hx : a.eval x = .agg cs) (hy : a.eval y = .agg cs) (hs : (Op.equalIn 10000 t (.agg cs) (.agg cs)).run P w = .ok true w)
    (h : wpList P ops Q rest (a.put o.dst (.bool true)) w) : wpList P ops Q (o :: rest) a w :=
  wpList_wanted hw fun K hK => wp_eq_self t x y ho cs hm hx hy hs (hK _ _ h)
theorem run_field0 (w : World) (cs : Array Value) (v : Value) (h : cs[0]? = some v) : (Instr.field 25 (.agg cs) 0).run Tryd.prog w = .ok v w := by
  unfold Instr.field
  simp [run_underlying Tryd.underlying25, asAgg, run_part_int Tryd.underlying3 cs 0 v h]
theorem wpList_field0 {ops : Array Oper} {rest : List Oper} {o : Oper} {a : Act} {w : World} {Q : Exit → Act → World → Prop} (hw : Region.wanted o (yielded ops a.tmps) = true) (x : Operand) (ho : o.op = .field 25 x 0) (cs : Array Value) (v : Value) (hx : a.eval x = .agg cs) (hv : cs[0]? = some v)
    (h : wpList Tryd.prog ops Q rest (a.put o.dst v) w) : wpList Tryd.prog ops Q (o :: rest) a w :=
  wpList_wanted hw fun K hK => by
    unfold Oper.wp execOp
    simp only [ho, hx, Sem.run_bind, run_field0 w cs v hv, Result.andThen_ok, Sem.run_pure]
    exact hK _ _ h
theorem ints_nil (w : World) : IsInts .i64 w none [] := ⟨(fun y hy => by cases hy), .inl rfl⟩
def RS1 : RS := RS0.behind 1 (recSum RS0.last RS0.num RC0)
set_option maxRecDepth 100000 in
set_option maxHeartbeats 8000000 in
theorem stands_any (W : World) : Calls Tryd.prog 7 #[] W fun e w' => e = .returned (.bool true) ∧ Below W.heap.size W w' := by
  go_enter Tryd.func7, Tryd.ntmps7
  go_upto_region 2 with (go_at_call 9; (with_reducible refine (new200 _).mono ?_); rintro e w1 ⟨db, rfl, h1, hb1⟩; have H1 := Lib.hid (And.intro h1 hb1); clear h1 hb1)
  have hop := open_ok (s := RS0) (H1.out.1.base (Nat.zero_le _)) (onB_new 200) s0_ok rfl
  rw [show RS0.n + 1 = 101 from rfl, stand_open0] at hop
  go_upto_region 3 with (first
    | (refine wpList_build (by rfl) 25 #[] (by rfl) (markL RS0).toArray (by exact built_zero_mark) ?_)
    | (go_at_call 18; refine hop.mono ?_; rintro e w2 ⟨rb, v2, rfl, h2⟩; have H2 := Lib.hid h2; clear h2))
  have hrd : RD W.heap.size w2 rb db RS0 200 0 (DK.new 200) := RD.of_open H1.out.1 H2.out H1.out.2.size
  obtain ⟨a2, m2, p2, rfl, hm2⟩ := H2.out.slice
  obtain rfl : m2 = 0 := hm2.out
  have hbw2 : Below W.heap.size W w2 := H1.out.2.trans (H2.out.bel.mono H1.out.2.size)
  have HD := Lib.hid (And.intro hrd hbw2)
  clear hop hrd H1 H2 hm2 hbw2
  have hch : IsChs (w2.alloc (.cells (chF (7, pg3 9 0 0)).toArray 79)) (some ⟨w2.heap.size, 0, none⟩) RC0 := by
    refine ⟨c0_ok, .inr ⟨w2.heap.size, 0, rfl, by simp, fun i c hc => ?_⟩⟩
    obtain ⟨rfl, rfl⟩ : i = 0 ∧ c = (7, pg3 9 0 0) := by
      rcases i with _ | i
      · exact ⟨rfl, by simpa [RC0] using hc.symm⟩
      · simp [RC0] at hc
    exact isBlk_range (IsBlk.new w2 _ _) 0 (fun k v hv => by rw [Nat.zero_add]; exact hv)
  have hadd := (HD.out.1.below ((Below.refl w2.heap.size w2).alloc (Nat.le_refl _) (.cells (chF (7, pg3 9 0 0)).toArray 79))).add (cc := 1) hch (by decide) (by decide) (by decide) (by decide)
  rw [show RC0.length = 1 from rfl] at hadd
  change Calls _ _ _ _ (fun e w' => e = .returned .nilIface ∧ RD W.heap.size w' rb db RS1 200 _ (putAll RS0 (recPgs RS0.last RS0.num RC0) 0 (DK.new 200)) ∧ _) at hadd
  go_upto_region 4 with (first
    | (refine wpList_build (by rfl) 48 #[(0, .const (.int .u8 9))] (by rfl) (nv .u8 (pg3 9 0 0)) (by exact built_pg9) ?_)
    | (refine wpList_build (by rfl) 79 #[(0, .const (.int .i64 7)), (1, .tmp 23)] (by rfl) (chF (7, pg3 9 0 0)).toArray (by exact chg_built 7 (pg3 9 0 0) (pg3_length _ _ _)) ?_)
    | (refine chg_wp_slice (by rfl) (.tmp 24) (by rfl) (7, pg3 9 0 0) (pg3_length _ _ _) (by rfl) ?_)
    | (go_at_call 24; refine hadd.mono ?_; rintro e w3 ⟨rfl, h3, hb3⟩; have H3 := Lib.hid (And.intro h3 hb3); clear h3 hb3))
  clear hadd hch
  have hb13 : Below W.heap.size W w3 := HD.out.2.trans (((Below.refl W.heap.size w2).alloc HD.out.2.size (.cells (chF (7, pg3 9 0 0)).toArray 79)).trans H3.out.2)
  have HB3 := Lib.hid hb13
  clear hb13
  obtain ⟨N, n1, n2, n3⟩ := H3.out.1.ex
  have hflu := n1.flush (by have := H3.out.1.on.pl; unfold takes at this; omega) H3.out.1.hB
  have hfe : (putAll RS0 (recPgs RS0.last RS0.num RC0) 0 (DK.new 200)).flushE = 0 := by unfold DK.flushE; rw [(onB_step H3.out.1.on).2]; rfl
  rw [hfe] at hflu
  go_upto_region 5 with (go_at_call 30; (with_reducible refine hflu.mono ?_); rintro e w4 ⟨v4, rfl, hr4, h4, hb4, hc4⟩; obtain rfl := res_nil hr4; have H4 := Lib.hid (And.intro h4 (And.intro (HB3.out.trans hb4) (IsRg.but H3.out.1.isrg hc4 (fun e => e n2)))); clear h4 hb4 hc4)
  clear hflu hfe
  have hcr := H4.out.1.dk.crash (by unfold DK.flush; rw [(onB_step H3.out.1.on).2]; exact Nat.zero_lt_succ _) none [] 0 (ints_nil w4) (by decide)
  rw [show ([] : List Int).length = 0 from rfl] at hcr
  change Calls _ _ _ _ (fun e w' => ∃ eb, e = .returned (.pointer (some ⟨eb, 0, none⟩)) ∧ Dk w4.heap.size w' eb SD ∧ _) at hcr
  have hop : ∀ (w : World) (eb : Nat), Dk w4.heap.size w eb SD → Calls Tryd.prog 18 #[.pointer (some ⟨eb, 0, none⟩), .int .i64 2, .int .i64 100, .agg (markL RS0).toArray] w fun e w' => ∃ rb v, e = .returned (.tuple #[.pointer (some ⟨rb, 0, none⟩), v, .nilIface]) ∧ OpenI w w' rb eb RS1 v [RC0] 200 0 SD := fun w eb h => by
    have := open_ok (s := RS0) (h.base (Nat.zero_le _)) stand_open1.1 s0_ok rfl
    rw [show RS0.n + 1 = 101 from rfl, stand_open1.2] at this
    exact this
  go_upto_region 6 with (first
    | (refine wpList_build (by rfl) 25 #[] (by rfl) (markL RS0).toArray (by exact built_zero_mark) ?_)
    | (go_at_call 31; (with_reducible refine hcr.mono ?_); rintro e w5 ⟨eb, rfl, h5, hb5⟩; have H5 := Lib.hid (And.intro h5 hb5); clear h5 hb5)
    | (go_at_call 18; refine (hop _ _ H5.out.1).mono ?_; rintro e w6 ⟨rb6, v6, rfl, h6⟩; have H6 := Lib.hid h6; clear h6))
  clear hcr hop
  obtain ⟨vs, hvs⟩ := H6.out.recs
  obtain ⟨g, cap, ya, yc, rfl, c1, r1⟩ := hvs.at_ (i := 0) (l := RC0) rfl
  have hlen : vs.length = 1 := hvs.len
  rw [hlen]
  rw [show RC0.length = 1 from rfl] at c1 r1
  obtain ⟨gx, cx, ex, rx, _⟩ := r1.range (by decide) (k := 0) (x := (7, pg3 9 0 0)) rfl
  obtain ⟨rfl, -, rfl⟩ := slice_inj ex
  rw [Nat.zero_mul] at rx
  have hb46 := H5.out.2.trans (H6.out.bel.mono H5.out.2.size)
  have hrg6 := H4.out.2.2.below hb46
  have hhd := head_any hrg6 (show RS1.last.length = 32 from digest_length _)
  have HF := Lib.hid (And.intro rx (H4.out.2.1.trans (hb46.mono H4.out.2.1.size)))
  clear hvs hlen r1 ex rx hb46 hrg6 n1 n2 n3
  go_wp2_with (first
    | (go_at_call 20; (with_reducible refine (num_zero _).mono ?_); rintro e w' ⟨rfl, hw'⟩; obtain rfl := hw'.symm)
    | (refine wpList_load_mid_g (by rfl) 79 (.tmp 70) (by rfl) gx 0 (by rfl) (chF (7, pg3 9 0 0)) _ HF.out.1 Tryd.underlying79 rfl (by rw [chF_length _ (pg3_length _ _ _)]; kernel_rfl) ?_)
    | (refine wpList_build_g (by rfl) 48 #[(0, .const (.int .u8 9))] (by rfl) (nv .u8 (pg3 9 0 0)) (by exact built_pg9) ?_)
    | (refine wpList_build_g (by rfl) 79 #[(0, .const (.int .i64 7)), (1, .tmp 72)] (by rfl) (chF (7, pg3 9 0 0)).toArray (by exact chg_built 7 (pg3 9 0 0) (pg3_length _ _ _)) ?_)
    | (refine wpList_eq_self_g (by rfl) 79 (.tmp 71) (.tmp 73) (by rfl) (chF (7, pg3 9 0 0)).toArray (by kernel_rfl) (by rfl) (by rfl) (chg_self (7, pg3 9 0 0) (pg3_length _ _ _) _) ?_)
    | (go_at_call 26; (with_reducible refine hhd.mono ?_); rintro e w7 ⟨rfl, hb7⟩; have H7 := Lib.hid hb7; clear hb7)
    | (refine wpList_field0 (by rfl) (.tmp 78) (by rfl) (markL RS1).toArray (.int .i64 3) (by rfl) (by rfl) ?_))
  go_ret
  exact ⟨rfl, HF.out.2.trans (H7.out.mono HF.out.2.size)⟩
end Go.Proofs.YtkabkehfckbhcaaDoor
