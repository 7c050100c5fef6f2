/-
  ring: Open.
-/
import Derived.Test.YtkabkehfckbhcaaDoorZRgRec
import Derived.Test.YtkabkehfckbhcaaDoorZRgErr
import Derived.Test.YtkabkehfckbhcaaDoorMgE
namespace Go.Proofs.YtkabkehfckbhcaaDoor
set_option linter.unusedVariables false
set_option linter.unusedSimpArgs false
open Go.RowKit

theorem wpList_build {P : Program} {ops : Array Oper} {rest : List Oper} {o : Oper} {a : Act} {w : World} {Q : Exit → Act → World → Prop} (hgd : o.guard = none) (t : TypeId) (parts : Array (Nat × Operand)) (ho : o.op = .build t parts) (cells : Array Value)
    (hb : P.built t (parts.toList.map fun (i, x) => (i, a.eval x)) = some cells) (h : wpList P ops Q rest (a.put o.dst (.agg cells)) w) : wpList P ops Q (o :: rest) a w :=
  wpList_plain hgd fun K hK => by
    rw [← Array.toList_map] at hb
    unfold Oper.wp execOp
    simp only [ho, Sem.run_bind, run_build w t _ cells hb, Result.andThen_ok]
    exact hK _ _ h
theorem built_zero {P : Program} {t : TypeId} {zc : Array Value} {ps : List (Nat × Nat)} {parts : List (Nat × Value)} {cs : Array Value} (hA : (P.info? t).bind (fun it => it.zero.map fun z => z.cells) = some zc)
    (hB : (match P.underlying t with | some (.struct fields) => fields.toList.mapM (fun f => (P.info? f.type).map fun i => (f.offset, i.size)) | _ => none) = some ps)
    (hF : Instr.fill (fun i => ps.toArray[i]?) zc parts = some cs) : P.built t parts = some cs := by
  obtain ⟨it, h1, hA⟩ := Option.bind_eq_some_iff.1 hA
  obtain ⟨z, h2, h5⟩ := Option.map_eq_some_iff.1 hA
  unfold Program.built
  cases hu : P.underlying t with
  | none => rw [hu] at hB; cases hB
  | some ds =>
  rw [hu] at hB
  cases ds with
  | struct fields =>
  simp only at hB
  simp only [h1, h2, hB, h5]
  exact hF
  | _ => simp at hB
/-- Three cells ahead of an array's, one behind it as it was. -/
theorem fill_ring (place : Nat → Option (Nat × Nat)) (zc : Array Value) (v u x : Value) (hv : v.cells = #[v]) (hu : u.cells = #[u]) (hx : x.cells = #[x]) (cs : Array Value) (e : Value) (h0 : place 0 = some (0, 1)) (h1 : place 1 = some (1, 1)) (h2 : place 2 = some (2, 1)) (h3 : place 3 = some (3, cs.size)) (hs : zc.size = cs.size + 4) (he : zc[cs.size + 3]? = some e) :
    Instr.fill place zc [(0, v), (1, u), (2, x), (3, .agg cs)] = some ((v :: u :: x :: (cs.toList ++ [e])).toArray) := by
  have hc : (Value.agg cs).cells = cs := rfl
  have hz : ∀ (q : Value) (hq : q.cells = #[q]) (o : Nat) (cells : Array Value), (q.cells.zipIdx.foldl (fun (cs : Array Value) (x : Value × Nat) => cs.setIfInBounds (o + x.2) x.1) cells) = cells.setIfInBounds o q := fun q hq o cells => by
    rw [hq, fold_array]; rfl
  rw [fill_step h0 (by rw [hv]; rfl) (by omega), hz v hv, fill_step h1 (by rw [hu]; rfl) (by simp; omega), hz u hu, fill_step h2 (by rw [hx]; rfl) (by simp; omega), hz x hx, fill_step h3 (by rw [hc]) (by simp; omega), hc, Instr.fill]
  congr 1
  rw [fold_array]
  obtain ⟨_, h4⟩ := fold_set 3 cs.toList 0 (((zc.setIfInBounds 0 v).setIfInBounds 1 u).setIfInBounds 2 x)
  apply Array.ext_getElem?
  intro i
  have hr : (v :: u :: x :: (cs.toList ++ [e])).toArray[i]? = (v :: u :: x :: (cs.toList ++ [e]))[i]? := by simp
  rw [h4 i, hr]
  simp only [Array.size_setIfInBounds, Array.getElem?_setIfInBounds, Array.length_toList]
  rcases i with _ | _ | _ | i
  · rw [if_neg (by omega), if_neg (by omega), if_neg (by omega), if_pos rfl, if_pos (by omega)]; rfl
  · rw [if_neg (by omega), if_neg (by omega), if_pos rfl, if_pos (by omega)]; rfl
  · rw [if_neg (by omega), if_pos rfl, if_pos (by omega)]; rfl
  · rw [if_neg (show ¬ (2 = i + 1 + 1 + 1) by omega), if_neg (show ¬ (1 = i + 1 + 1 + 1) by omega), if_neg (show ¬ (0 = i + 1 + 1 + 1) by omega)]
    show _ = (cs.toList ++ [e])[i]?
    by_cases hi : i < cs.size
    · rw [if_pos (by omega), show i + 1 + 1 + 1 - (3 + 0) = i by omega, List.getElem?_append_left (by simpa using hi)]
    · rw [if_neg (by omega), List.getElem?_append_right (by simpa using hi)]
      by_cases hj : i = cs.size
      · subst hj; rw [he]; simp
      · rw [List.getElem?_eq_none (by simp; omega), Array.getElem?_eq_none (by omega)]
theorem markL_size {s : RS} (h : s.last.length = 32) : (markL s).toArray.size = 34 := by rw [List.size_toArray, markL_length h]
def zeroRg : Array Value := (Value.pointer none :: .int .i64 0 :: .int .i64 0 :: (markL ⟨0, 0, 0, 0, List.replicate 32 0, 0⟩ ++ [.int .i64 0])).toArray
theorem built_ring (db : Nat) (s : RS) (h : s.last.length = 32) (hu : s.used = 0) : Tryd.prog.built 100 [(0, .pointer (some ⟨db, 0, none⟩)), (1, .int .i64 ((s.first : Nat) : Int)), (2, .int .i64 ((s.n : Nat) : Int)), (3, .agg (markL s).toArray)] = some (ringL db s).toArray := by
  have hm := markL_size h
  have key := fill_ring (fun i => ([(0, 1), (1, 1), (2, 1), (3, 34), (37, 1)] : List (Nat × Nat)).toArray[i]?) zeroRg (.pointer (some ⟨db, 0, none⟩)) (.int .i64 ((s.first : Nat) : Int)) (.int .i64 ((s.n : Nat) : Int)) rfl rfl rfl (markL s).toArray (.int .i64 0) rfl rfl rfl (by rw [hm]; rfl) (by rw [hm]; rfl) (by rw [hm]; rfl)
  have e : (ringL db s) = Value.pointer (some ⟨db, 0, none⟩) :: .int .i64 ((s.first : Nat) : Int) :: .int .i64 ((s.n : Nat) : Int) :: ((markL s).toArray.toList ++ [.int .i64 0]) := by
    unfold ringL
    rw [hu]
    simp
  rw [e]
  exact built_zero (zc := zeroRg) (ps := [(0, 1), (1, 1), (2, 1), (3, 34), (37, 1)]) (by kernel_rfl) (by kernel_rfl) key

/-- Records in a row, each a row of changes. -/
def oneF (v : Value) : List Value := [v]
structure RecsT (te ti : TypeId) (w : World) (base : Nat) (v : Value) (vs : List Value) (L : List (List CH)) : Prop where
  out : RowF w base te 1 oneF v vs
  len : vs.length = L.length
  ins : ∀ (i : Nat) (x : Value) (l : List CH), vs[i]? = some x → L[i]? = some l → RowF w base ti 65 chF x l
abbrev Recs := RecsT 46 79
abbrev RRecs := RecsT 44 93
section
variable {te ti : TypeId} {w w' : World} {base : Nat} {v : Value} {vs : List Value} {L : List (List CH)}
theorem RecsT.below (h : RecsT te ti w base v vs L) (hb : Below w.heap.size w w') : RecsT te ti w' base v vs L :=
  ⟨h.out.below hb, h.len, fun i x l hx hl => (h.ins i x l hx hl).below hb⟩
theorem RecsT.mono (h : RecsT te ti w base v vs L) {base' : Nat} (hb : base' ≤ base) : RecsT te ti w base' v vs L :=
  ⟨h.out.mono hb, h.len, fun i x l hx hl => (h.ins i x l hx hl).mono hb⟩
/-- Other blocks turned. -/
theorem RecsT.but (h : RecsT te ti w base v vs L) {S : Nat → Prop} (hb : But S w w') (hs : ∀ k, base ≤ k → ¬ S k) : RecsT te ti w' base v vs L :=
  ⟨h.out.but hb (fun k hk => hs k (h.out.base_le k hk)), h.len, fun i x l hx hl => (h.ins i x l hx hl).but hb (fun k hk => hs k ((h.ins i x l hx hl).base_le k hk))⟩
/-- Another block turned, of no such type. -/
theorem RecsT.other (h : RecsT te ti w base v vs L) {g : Nat} {cs : Array Value} {t : TypeId} (hg : IsBlk w g cs t) (h1 : te ≠ t) (h2 : ti ≠ t) (hb : But (fun k => k = g) w w') : RecsT te ti w' base v vs L :=
  ⟨h.out.but hb (fun k hk e => h.out.no_blk hg h1 (by rw [hk, e])), h.len, fun i x l hx hl => (h.ins i x l hx hl).but hb (fun k hk e => (h.ins i x l hx hl).no_blk hg h2 (by rw [hk, e]))⟩
theorem RecsT.nil (te ti : TypeId) (w : World) (base : Nat) : RecsT te ti w base (.slice none 0 0) [] [] := ⟨RowF.nil _ _ _ _ _, rfl, fun i x l hx => by simp at hx⟩
end
theorem sl_typ : ∃ it z, Tryd.prog.info? 46 = some it ∧ it.zero = some z ∧ it.size = 1 ∧ it.bytes = 24 ∧ z.cells.size = 1 := by
  have h : (Tryd.prog.info? 46).bind (fun it => it.zero.map fun z => (it.size, it.bytes, z.cells.size)) = some (1, 24, 1) := by kernel_rfl
  obtain ⟨it, h1, h⟩ := Option.bind_eq_some_iff.1 h
  obtain ⟨z, h2, h3⟩ := Option.map_eq_some_iff.1 h
  injection h3 with h3 h4
  injection h4 with h4 h5
  exact ⟨it, z, h1, h2, h3, h4, h5⟩
theorem slr_typ : ∃ it z, Tryd.prog.info? 44 = some it ∧ it.zero = some z ∧ it.size = 1 ∧ it.bytes = 24 ∧ z.cells.size = 1 := by
  have h : (Tryd.prog.info? 44).bind (fun it => it.zero.map fun z => (it.size, it.bytes, z.cells.size)) = some (1, 24, 1) := by kernel_rfl
  obtain ⟨it, h1, h⟩ := Option.bind_eq_some_iff.1 h
  obtain ⟨z, h2, h3⟩ := Option.map_eq_some_iff.1 h
  injection h3 with h3 h4
  injection h4 with h4 h5
  exact ⟨it, z, h1, h2, h3, h4, h5⟩
theorem sl_src (t : TypeId) (w : World) (y : Value) : Src (w.alloc (.cells #[y] t)) 1 (some ⟨w.heap.size, 0, none⟩) 1 [y] := by
  refine ⟨rfl, (fun h => by cases h), ?_⟩
  rintro ad ⟨rfl⟩ j u hu
  rw [Addr.add_mid, Nat.zero_add]
  refine (IsBlk.new w #[y] t).cell j ?_
  rcases j with _ | j
  · simpa using hu
  · simp at hu
theorem wpList_app_recT {te ti ts : TypeId} (hne : ti ≠ te) (hty : ∃ it z, Tryd.prog.info? te = some it ∧ it.zero = some z ∧ it.size = 1 ∧ it.bytes = 24 ∧ z.cells.size = 1) (hu : Tryd.prog.underlying ts = some (.slice te))
    {ops : Array Oper} {rest : List Oper} {o : Oper} {a : Act} {wr : World} {Q : Exit → Act → World → Prop} {base : Nat} {pa ya : Option Addr} {pc n yn yc : Nat} {vs : List Value} {L : List (List CH)} {l : List CH} (hgd : o.guard = none) (s x : Operand)
    (ho : o.op = .call { callee := .builtin .append, args := #[s, x], argTypes := #[ts, ts] }) (h : RecsT te ti wr base (.slice pa n pc) vs L) (hn : vs.length = n) (hy : RowF wr base ti 65 chF (.slice ya yn yc) l) (hs : a.eval s = .slice pa n pc) (hx : a.eval x = .slice (some ⟨wr.heap.size, 0, none⟩) 1 1) (hL : n ≤ 10000) (hB : base ≤ wr.heap.size)
    (K : ∀ v' w', RecsT te ti w' base v' (vs ++ [.slice ya yn yc]) (L ++ [l]) → But (fun k => (Value.slice pa n pc).ownBlock = some k) wr w' → Below base wr w' → wpList Tryd.prog ops Q rest (a.put o.dst v') w') : wpList Tryd.prog ops Q (o :: rest) a (wr.alloc (.cells #[.slice ya yn yc] te)) := by
  obtain ⟨it, z, hi1, hi2, hi3, hi4, hi5⟩ := hty
  have hb : Below wr.heap.size wr (wr.alloc (.cells #[.slice ya yn yc] te)) := (Below.refl _ _).alloc (Nat.le_refl _) _
  have hown := (h.out.below hb).2
  rw [hn] at hown
  refine wpList_append_src _ hgd s x ts ho base te it z 1 24 hu hi1 hi2 hi3 hi4 (by rw [hi5]) (by decide) _ n _ hs hown _ 1 1 [.slice ya yn yc] hx (sl_src te wr _) (by intro e; cases e) (fun u hu => by rw [List.mem_singleton.1 hu]; rfl) (by unfold maxLen; omega) (by omega) (Nat.le_trans hB hb.size) fun v' w' q1 q2 q3 => ?_
  rw [← hn] at q1
  have hbt : But (fun k => (Value.slice pa n pc).ownBlock = some k) wr w' := ((But.refl _ wr).alloc _).grown q2 (fun k hk => hk)
  have hbl : Below base wr w' := (hb.mono hB).grown q2 (Nat.le_trans hB hb.size) (fun k hk => h.out.base_le k hk)
  have hin : ∀ {x : Value} {m : List CH}, RowF wr base ti 65 chF x m → RowF w' base ti 65 chF x m := fun hr => hr.but hbt (fun k hk => hr.ne_row h.out hne hk)
  refine K v' w' ⟨⟨fun u _ => rfl, ?_⟩, by simp [h.len], fun i u m hu hm => ?_⟩ hbt hbl
  · rw [List.length_append, List.flatMap_append]
    simpa [oneF] using q1
  · rcases Nat.lt_trichotomy i vs.length with hi | hi | hi
    · rw [List.getElem?_append_left hi] at hu
      rw [List.getElem?_append_left (by rw [← h.len]; exact hi)] at hm
      exact hin (h.ins i u m hu hm)
    · rw [hi, List.getElem?_append_right (Nat.le_refl _), Nat.sub_self] at hu
      rw [hi, h.len, List.getElem?_append_right (Nat.le_refl _), Nat.sub_self] at hm
      simp at hu hm
      subst hu hm
      exact hin hy
    · rw [List.getElem?_eq_none (by simp; omega)] at hu; cases hu
theorem wpList_app_rec {ops : Array Oper} {rest : List Oper} {o : Oper} {a : Act} {wr : World} {Q : Exit → Act → World → Prop} {base : Nat} {pa ya : Option Addr} {pc n yn yc : Nat} {vs : List Value} {L : List (List CH)} {l : List CH} (hgd : o.guard = none) (s x : Operand)
    (ho : o.op = .call { callee := .builtin .append, args := #[s, x], argTypes := #[55, 55] }) (h : Recs wr base (.slice pa n pc) vs L) (hn : vs.length = n) (hy : RowF wr base 79 65 chF (.slice ya yn yc) l) (hs : a.eval s = .slice pa n pc) (hx : a.eval x = .slice (some ⟨wr.heap.size, 0, none⟩) 1 1) (hL : n ≤ 10000) (hB : base ≤ wr.heap.size)
    (K : ∀ v' w', Recs w' base v' (vs ++ [.slice ya yn yc]) (L ++ [l]) → But (fun k => (Value.slice pa n pc).ownBlock = some k) wr w' → Below base wr w' → wpList Tryd.prog ops Q rest (a.put o.dst v') w') : wpList Tryd.prog ops Q (o :: rest) a (wr.alloc (.cells #[.slice ya yn yc] 46)) :=
  wpList_app_recT (by decide) sl_typ Tryd.underlying55 hgd s x ho h hn hy hs hx hL hB K

/-- A mark as it came. -/
def markV (place num : Int) (last : List Nat) : Value := .agg (.int .i64 place :: .int .u64 num :: bv last).toArray
theorem in_ring_at (W : World) : Calls Tryd.prog 32 #[.string ⟨#[114, 105, 110, 103]⟩, .iface 83 (.int .i64 1)] W fun e w' => ∃ v, e = .returned v ∧ (∃ b, v = .iface 115 (.pointer (some ⟨b, 0, none⟩)) ∧ W.heap.size ≤ b) ∧ IsNum w' v 1 ∧ Below W.heap.size W w' := in_ring1 W
/-- What Open refuses. -/
def OpenBad (first n place sz : Int) : Prop := first < 0 ∨ n < 96 ∨ 4096 < n ∨ sz - n < first ∨ place < 0 ∨ n ≤ place
set_option maxRecDepth 100000 in
set_option maxHeartbeats 4000000 in
theorem open_bad (W : World) (vd : Value) (first n place num sz : Int) (last : List Nat) (h0 : 0 ≤ sz) (h1 : sz ≤ 4096) (hsz : ∀ w, Below W.heap.size W w → Calls Tryd.prog 38 #[vd] w fun e w' => e = .returned (.int .i64 sz) ∧ w' = w) (hbad : OpenBad first n place sz) :
    Calls Tryd.prog 18 #[vd, .int .i64 first, .int .i64 n, markV place num last] W fun e w' => ∃ v, e = .returned (.tuple #[.pointer none, .slice none 0 0, v]) ∧ (∃ b, v = .iface 115 (.pointer (some ⟨b, 0, none⟩))) ∧ IsNum w' v 1 ∧ Below W.heap.size W w' := by
  unfold OpenBad at hbad
  go_enter Tryd.func18, Tryd.ntmps18
  unfold markV
  go_upto_region 1 with fail
  change Code.wp _ _ _ _ (W.alloc (.cells (.int .i64 place :: .int .u64 num :: bv last).toArray 25))
  have hn : IsBlk (W.alloc (.cells (.int .i64 place :: .int .u64 num :: bv last).toArray 25)) W.heap.size (.int .i64 place :: .int .u64 num :: bv last).toArray 25 := IsBlk.new _ _ _
  have hb : Below W.heap.size W (W.alloc (.cells (.int .i64 place :: .int .u64 num :: bv last).toArray 25)) := (Below.refl _ _).alloc (Nat.le_refl _) _
  generalize W.alloc (.cells (.int .i64 place :: .int .u64 num :: bv last).toArray 25) = w1 at hn hb ⊢
  have hs1 := hsz w1 hb
  have cp := hn.cell 0 (v := .int .i64 place) rfl
  have HB := Lib.hid hb
  clear hn hb hsz
  generalize hmb : W.heap.size = mb at *
  have HMB := Lib.hid hmb
  clear hmb
  by_cases q1 : first < 0
  · clear hbad
    go_wp2_with (first
      | (go_at_call 38; (with_reducible refine hs1.mono ?_); rintro e w2 ⟨rfl, hw2⟩; obtain rfl := hw2.symm)
      | (go_at_call 32; (with_reducible refine (in_ring_at _).mono ?_); rintro e w3 ⟨v, rfl, ⟨b, rfl, _⟩, hr, hb2⟩; have HR := Lib.hid (And.intro hr hb2); clear hr hb2))
    go_ret3
    exact ⟨_, rfl, ⟨_, rfl⟩, HR.out.1, by rw [HMB.out]; exact HB.out.trans (HR.out.2.mono (by have := HB.out.size; have := HMB.out; omega))⟩
  by_cases q2 : n < 96
  · clear hbad
    go_wp2_with (first
      | (go_at_call 38; (with_reducible refine hs1.mono ?_); rintro e w2 ⟨rfl, hw2⟩; obtain rfl := hw2.symm)
      | (go_at_call 32; (with_reducible refine (in_ring_at _).mono ?_); rintro e w3 ⟨v, rfl, ⟨b, rfl, _⟩, hr, hb2⟩; have HR := Lib.hid (And.intro hr hb2); clear hr hb2))
    go_ret3
    exact ⟨_, rfl, ⟨_, rfl⟩, HR.out.1, by rw [HMB.out]; exact HB.out.trans (HR.out.2.mono (by have := HB.out.size; have := HMB.out; omega))⟩
  by_cases q3 : 4096 < n
  · clear hbad
    go_wp2_with (first
      | (go_at_call 38; (with_reducible refine hs1.mono ?_); rintro e w2 ⟨rfl, hw2⟩; obtain rfl := hw2.symm)
      | (go_at_call 32; (with_reducible refine (in_ring_at _).mono ?_); rintro e w3 ⟨v, rfl, ⟨b, rfl, _⟩, hr, hb2⟩; have HR := Lib.hid (And.intro hr hb2); clear hr hb2))
    go_ret3
    exact ⟨_, rfl, ⟨_, rfl⟩, HR.out.1, by rw [HMB.out]; exact HB.out.trans (HR.out.2.mono (by have := HB.out.size; have := HMB.out; omega))⟩
  by_cases q4 : sz - n < first
  · clear hbad
    go_wp2_with (first
      | (go_at_call 38; (with_reducible refine hs1.mono ?_); rintro e w2 ⟨rfl, hw2⟩; obtain rfl := hw2.symm)
      | (go_at_call 32; (with_reducible refine (in_ring_at _).mono ?_); rintro e w3 ⟨v, rfl, ⟨b, rfl, _⟩, hr, hb2⟩; have HR := Lib.hid (And.intro hr hb2); clear hr hb2))
    go_ret3
    exact ⟨_, rfl, ⟨_, rfl⟩, HR.out.1, by rw [HMB.out]; exact HB.out.trans (HR.out.2.mono (by have := HB.out.size; have := HMB.out; omega))⟩
  by_cases q5 : place < 0
  · clear hbad
    go_wp2_with (first
      | (go_at_call 38; (with_reducible refine hs1.mono ?_); rintro e w2 ⟨rfl, hw2⟩; obtain rfl := hw2.symm)
      | (go_at_call 32; (with_reducible refine (in_ring_at _).mono ?_); rintro e w3 ⟨v, rfl, ⟨b, rfl, _⟩, hr, hb2⟩; have HR := Lib.hid (And.intro hr hb2); clear hr hb2))
    go_ret3
    exact ⟨_, rfl, ⟨_, rfl⟩, HR.out.1, by rw [HMB.out]; exact HB.out.trans (HR.out.2.mono (by have := HB.out.size; have := HMB.out; omega))⟩
  have q6 : n ≤ place := by omega
  clear hbad
  go_wp2_with (first
    | (go_at_call 38; (with_reducible refine hs1.mono ?_); rintro e w2 ⟨rfl, hw2⟩; obtain rfl := hw2.symm)
    | (go_at_call 32; (with_reducible refine (in_ring_at _).mono ?_); rintro e w3 ⟨v, rfl, ⟨b, rfl, _⟩, hr, hb2⟩; have HR := Lib.hid (And.intro hr hb2); clear hr hb2))
  go_ret3
  exact ⟨_, rfl, ⟨_, rfl⟩, HR.out.1, by rw [HMB.out]; exact HB.out.trans (HR.out.2.mono (by have := HB.out.size; have := HMB.out; omega))⟩
end Go.Proofs.YtkabkehfckbhcaaDoor
