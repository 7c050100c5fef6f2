/-
  woe: WoeSteps walked.
-/
import Derived.Test.YtgoddepgdgdacaaDoorWoeIsW
import Derived.Deep.RegionLaw
import Derived.Deep.RegionHeld3
namespace Go.Proofs.YtgoddepgdgdacaaDoor
set_option linter.unusedVariables false
set_option linter.unusedSimpArgs false
open Go.RowKit

/-- The same memory (what is drawn aside). -/
def SameW (w w' : World) : Prop := ∀ B, Below B w w'
theorem SameW.refl (w : World) : SameW w w := fun B => Below.refl _ _
theorem SameW.drew {w w' : World} (h : SameW w w') : SameW w w'.drew := fun B => (h B).trans ⟨rfl, rfl, rfl, Nat.le_refl _, fun _ _ => rfl⟩
theorem SameW.cell {w w' : World} (h : SameW w w') (p : Addr) : w'.cell? p = w.cell? p := (h (p.block + 1)).cell (Nat.lt_succ_self _)
theorem SameW.frozen {w w' : World} (h : SameW w w') (p : Addr) : w'.frozen? p = w.frozen? p := (h (p.block + 1)).frozen (Nat.lt_succ_self _)
/-- errors.As, of an error met somewhere, into a new cell. -/
theorem as_woe_new (b : Nat) (w w0 : World) (hg : HasET w) (hs : SameW (w.alloc (.cells #[.pointer none] 29)) w0) :
    Calls Tryd.prog 11 #[.iface 29 (.pointer (some ⟨b, 0, none⟩)), .iface 31 (.pointer (some ⟨w.heap.size, 0, none⟩))] w0 fun ev w' => ev = .returned (.bool true) ∧ w'.cell? ⟨w.heap.size, 0, none⟩ = some (.pointer (some ⟨b, 0, none⟩)) ∧ Below w.heap.size w w' := by
  have hb : Below w.heap.size w w0 := ((Below.refl _ _).alloc (Nat.le_refl _) _).trans (hs _)
  refine (as_woe' b ⟨w.heap.size, 0, none⟩ (.pointer none) _ (hg.below hb) (by rw [hs.cell]; simp) (by rw [hs.frozen]; simp)).mono ?_
  rintro ev w' ⟨h, hj⟩
  exact ⟨h, hj.got, hb.trans hj.rest⟩
/-- How many places Way tells. -/
theorem way_len (e : Value) (l : List ByteArray) (n : Int) (d : Nat) (hd : l.length = d) (W : World) (hg : HasET W) (h : IsErr W e l n) (hm : d * 16 ≤ 140737488355328) :
    Calls Tryd.prog 12 #[e] W fun ev w' => ∃ a cap, ev = .returned (.slice a d cap) ∧ Below W.heap.size W w' := by
  subst hd
  refine (way_any e l n W hg h hm).mono ?_
  rintro ev w' ⟨v, rfl, ho, hb⟩
  obtain ⟨a, cap, rfl, _⟩ := ho.form
  exact ⟨a, cap, rfl, hb⟩
/-- The last two calls of errors.As. -/
theorem as_last (n : Int) (w : World) (hg : HasET w) :
    Calls Tryd.prog 11 #[.iface 22 (.int .i64 n), .iface 31 (.pointer (some ⟨w.heap.size, 0, none⟩))] ((w.alloc (.cells #[.pointer none] 29)).alloc (.cells #[.int .i64 0] 22)) fun ev w' => ev = .returned (.bool false) ∧ w'.cell? ⟨w.heap.size + 1, 0, none⟩ = some (.int .i64 0) ∧ w'.frozen? ⟨w.heap.size + 1, 0, none⟩ = false ∧ Below w.heap.size w w' := by
  have hb : Below w.heap.size w ((w.alloc (.cells #[.pointer none] 29)).alloc (.cells #[.int .i64 0] 22)) := ((Below.refl _ _).alloc (Nat.le_refl _) _).alloc (by simp) _
  refine (as_bare n ⟨w.heap.size, 0, none⟩ (.pointer none) _ (hg.below hb) (by simp) (by simp)).mono ?_
  rintro ev w' ⟨h, hj⟩
  refine ⟨h, ?_, ?_, hb.trans (hj.mono (by simp; omega))⟩
  · rw [hj.cell (by simp)]
    simp
  · rw [hj.frozen (by simp)]
    simp

set_option maxHeartbeats 4000000 in
theorem steps_walk (v0 v1 : Value) (D0 D1 : D) (W : World) (r0 : RdV Tryd.prog W 22 v0 D0) (r1 : RdV Tryd.prog W 23 v1 D1) (hg : HasET W) :
    Calls Tryd.prog 3 #[v0, v1] W fun e w' => e = .returned (.bool true) ∧ Below W.heap.size W w' := by
  obtain ⟨n, rfl, rfl, hn⟩ := r0.int Tryd.underlying22
  obtain ⟨a, len, cap, l, rfl, rfl, rfl, hc1, hc2, hc3, hc4, hl⟩ := r1.strs Tryd.underlying23 Tryd.underlying9 (by kernel_rfl)
  have hm : l.length ≤ maxLen := Nat.le_trans hc1 hc2
  have hm16 : l.length * 16 ≤ 140737488355328 := by
    have hb : Tryd.prog.bytesOf 9 = 16 := by kernel_rfl
    rw [hb] at hc3
    unfold reachBytes at hc3
    omega
  clear r0 r1
  have hf := fun w (h : IsStrs w a l) => few_any a l cap w h hm
  have hmd := fun w (h : IsStrs w a l) => made_any n a l cap w h hm
  go_enter Tryd.func3, Tryd.ntmps3
  go_wp2_with (first
    | (go_at_call 8; (with_reducible refine (stands_any _ hg).mono ?_); rintro e w1 ⟨rfl, hb1⟩; have hl1 := hl.below hb1; have HB1 : Hid (Below W.heap.size W w1) := hb1; clear hb1)
    | (go_at_call 9; (with_reducible refine (hf _ hl1).mono ?_); rintro e w2 ⟨hE, rfl⟩; rcases hE with rfl | rfl)
    | (go_at_call 10; (with_reducible refine (hmd _ hl1).mono ?_); rintro e w3 ⟨T, x, rfl, he3, hb3⟩; have HB3 : Hid (Below W.heap.size W w3) := HB1.out.trans (hb3.mono HB1.out.size); clear hb3))
  · go_loopw [5, 20] (fun x i wr => ∃ k : Nat, k ≤ l.length ∧ i = .int .i64 k ∧ IsErr wr x (l.drop k) n ∧ Below W.heap.size W wr) (fun _ i _ => l.length - (intOf i).toNat)
    case atStart => exact ⟨0, by omega, rfl, he3, HB3.out⟩
    case round =>
      obtain ⟨k, hk, rfl, he, hb⟩ := hrel
      unfold maxLen at hm
      have HB := Hid.out (p := Hid _) hb
      have hgr := hg.below hb
      have hlr := hl.below hb
      clear hl1 HB1 he3 HB3 hf hmd hb
      by_cases hlt : k < l.length
      · have hdr : l.drop k = l.getD k ByteArray.empty :: l.drop (k + 1) := by
          rw [List.drop_eq_getElem_cons (by omega)]
          simp [List.getD, List.getElem?_eq_getElem hlt]
        have hdl : (l.drop k).length = l.length - k := by simp
        have he0 := he
        rw [hdr] at he
        generalize hsk : l.getD k ByteArray.empty = s at he
        obtain ⟨b, v, rfl, hs, hv, hr⟩ := he
        have hcall := fun w0 hs => as_woe_new b wr w0 hgr hs
        have HE0 := Hid.out (p := Hid _) he0
        clear he0
        have hway := fun w' h1 h2 => way_len (.iface 29 (.pointer (some ⟨b, 0, none⟩))) (l.drop k) n _ hdl w' h1 h2 (by omega)
        generalize hd : l.length - k = d at *
        have hld : l.length = k + d := by omega
        clear hdr hdl
        have hs0 := hs
        have hv0 := hv
        obtain ⟨bl, off, rfl, hbl, hc0⟩ := hlr.2.resolve_left (by intro h; subst h; simp at hlt)
        have hcw := hc0 k hlt
        rw [hsk] at hcw
        clear hc0
        obtain ⟨T1, x1, rfl⟩ := hr.iface
        have HR := Hid.out (p := Hid _) hr
        have HD := Hid.out (p := Hid _) hld
        have hsub : IntKind.i64.wrap ((l.length : Int) - (k : Int)) = (d : Nat) := by rw [hld]; rw [show ((k + d : Nat) : Int) - (k : Int) = (d : Nat) by omega]; exact IntWalk.i64_in _ (by omega)
        clear hr hs hv hsk hd hld hlr hgr
        go_wp2
        refine wp_region_any (by kernel_rfl) ?_
        change wpAny _ _ _ _ _ _ _ (World.drew _)
        refine wpAny_take (i := 0) (v := ?_) rfl (by kernel_rfl) (by kernel_rfl) (by kernel_rfl) (fun _ _ _ h => h) (Or.inl ⟨by rfl, ?_⟩) ?_
        rotate_left
        · intro w; go_simp; (try with_reducible rfl)
        (try simp only [Act.put, List.getElem_toArray, List.getElem_cons_succ, List.getElem_cons_zero, List.setIfInBounds_toArray, List.set_cons_zero, List.set_cons_succ])
        refine wpAny_take (i := 1) (v := ?_) rfl (by kernel_rfl) (by kernel_rfl) (by kernel_rfl) (fun _ _ _ h => h) (Or.inl ⟨by rfl, ?_⟩) ?_
        rotate_left
        · intro w; go_simp; (try with_reducible rfl)
        (try simp only [Act.put, List.getElem_toArray, List.getElem_cons_succ, List.getElem_cons_zero, List.setIfInBounds_toArray, List.set_cons_zero, List.set_cons_succ])
        refine wpAny_ready (rs := [2]) (by kernel_rfl) (by simp) ?_
        refine AllReady.cons rfl (fun K2 hK2 => ?_) AllReady.nil
        go_simp
        go_at_call 11
        (with_reducible refine (hcall _ (by exact (SameW.refl _).drew)).mono ?_)
        rintro e w5 ⟨rfl, hgot, hb5⟩
        have hs5 := hb5.cell (p := ⟨b, 0, none⟩) (cell_lt hs0)
        rw [hs0] at hs5
        have hv5 := hb5.cell (p := ⟨b, 1, none⟩) (cell_lt hv0)
        rw [hv0] at hv5
        have hc5 := hb5.cell (p := ⟨bl, off + k, none⟩) hbl
        rw [hcw] at hc5
        have hw5 := fun w' (h : Below w5.heap.size w5 w') => hway w' (hg.below ((HB.out.trans (hb5.mono HB.out.size)).trans (h.mono (HB.out.trans (hb5.mono HB.out.size)).size))) (HE0.out.below (hb5.trans (h.mono hb5.size)))
        have HB5 := Hid.out (p := Hid (Below _ _ _)) hb5
        clear hb5
        refine hK2 _ _ ?_
        clear hK2 K2
        (try simp only [Act.put, List.getElem_toArray, List.getElem_cons_succ, List.getElem_cons_zero, List.setIfInBounds_toArray, List.set_cons_zero, List.set_cons_succ])
        refine wpAny_of_held (S := fun w' => w'.cell? ⟨wr.heap.size, 0, none⟩ = some (.pointer (some ⟨b, 0, none⟩)) ∧ w'.cell? ⟨b, 0, none⟩ = some (.string s) ∧ w'.cell? ⟨bl, off + k, none⟩ = some (.string s) ∧ w'.cell? ⟨b, 1, none⟩ = some (.iface T1 x1) ∧ Below w5.heap.size w5 w') _ _ _ _ ?_
        have hHeld : (fun w' => w'.cell? ⟨wr.heap.size, 0, none⟩ = some (.pointer (some ⟨b, 0, none⟩)) ∧ w'.cell? ⟨b, 0, none⟩ = some (.string s) ∧ w'.cell? ⟨bl, off + k, none⟩ = some (.string s) ∧ w'.cell? ⟨b, 1, none⟩ = some (.iface T1 x1) ∧ Below w5.heap.size w5 w') w5 := ⟨hgot, hs5, hc5, hv5, Below.refl _ _⟩
        refine wpAnyH_take (i := 3) (v := ?_) rfl (by kernel_rfl) (by kernel_rfl) (by kernel_rfl) (fun _ _ _ h => h) (Or.inl ⟨by rfl, ?_⟩) (by with_reducible assumption) ?_
        rotate_left
        · intro w hSw; (try dsimp only at hSw); (try go_split_ands); go_simp; (try with_reducible rfl)
        (try simp only [Act.put, List.getElem_toArray, List.getElem_cons_succ, List.getElem_cons_zero, List.setIfInBounds_toArray, List.set_cons_zero, List.set_cons_succ])
        refine wpAnyH_take (i := 4) (v := ?_) rfl (by kernel_rfl) (by kernel_rfl) (by kernel_rfl) (fun _ _ _ h => h) (Or.inl ⟨by rfl, ?_⟩) (by with_reducible assumption) ?_
        rotate_left
        · intro w hSw; (try dsimp only at hSw); (try go_split_ands); go_simp; (try with_reducible rfl)
        (try simp only [Act.put, List.getElem_toArray, List.getElem_cons_succ, List.getElem_cons_zero, List.setIfInBounds_toArray, List.set_cons_zero, List.set_cons_succ])
        refine wpAnyH_take (i := 5) (v := ?_) rfl (by kernel_rfl) (by kernel_rfl) (by kernel_rfl) (fun _ _ _ h => h) (Or.inl ⟨by rfl, ?_⟩) (by with_reducible assumption) ?_
        rotate_left
        · intro w hSw; (try dsimp only at hSw); (try go_split_ands); go_simp; (try with_reducible rfl)
        (try simp only [Act.put, List.getElem_toArray, List.getElem_cons_succ, List.getElem_cons_zero, List.setIfInBounds_toArray, List.set_cons_zero, List.set_cons_succ])
        refine wpAnyH_take (i := 6) (v := ?_) rfl (by kernel_rfl) (by kernel_rfl) (by kernel_rfl) (fun _ _ _ h => h) (Or.inl ⟨by rfl, ?_⟩) (by with_reducible assumption) ?_
        rotate_left
        · intro w hSw; (try dsimp only at hSw); (try go_split_ands); go_simp; (try with_reducible rfl)
        (try simp only [Act.put, List.getElem_toArray, List.getElem_cons_succ, List.getElem_cons_zero, List.setIfInBounds_toArray, List.set_cons_zero, List.set_cons_succ])
        refine wpAnyH_take (i := 7) (v := ?_) rfl (by kernel_rfl) (by kernel_rfl) (by kernel_rfl) (fun _ _ _ h => h) (Or.inl ⟨by rfl, ?_⟩) (by with_reducible assumption) ?_
        rotate_left
        · intro w hSw; (try dsimp only at hSw); (try go_split_ands); go_simp; (try with_reducible rfl)
        (try simp only [Act.put, List.getElem_toArray, List.getElem_cons_succ, List.getElem_cons_zero, List.setIfInBounds_toArray, List.set_cons_zero, List.set_cons_succ])
        refine wpAnyH_take (i := 8) (v := ?_) rfl (by kernel_rfl) (by kernel_rfl) (by kernel_rfl) (fun _ _ _ h => h) (Or.inl ⟨by rfl, ?_⟩) (by with_reducible assumption) ?_
        rotate_left
        · intro w hSw; (try dsimp only at hSw); (try go_split_ands); go_simp; (try with_reducible rfl)
        (try simp only [Act.put, List.getElem_toArray, List.getElem_cons_succ, List.getElem_cons_zero, List.setIfInBounds_toArray, List.set_cons_zero, List.set_cons_succ])
        refine wpAnyH_take (i := 9) (v := ?_) rfl (by kernel_rfl) (by kernel_rfl) (by kernel_rfl) (fun _ _ _ h => h) (Or.inl ⟨by rfl, ?_⟩) (by with_reducible assumption) ?_
        rotate_left
        · intro w hSw; (try dsimp only at hSw); (try go_split_ands); go_simp; (try with_reducible rfl)
        (try simp only [Act.put, List.getElem_toArray, List.getElem_cons_succ, List.getElem_cons_zero, List.setIfInBounds_toArray, List.set_cons_zero, List.set_cons_succ])
        refine wpAnyH_take (i := 10) (v := ?_) rfl (by kernel_rfl) (by kernel_rfl) (by kernel_rfl) (fun _ _ _ h => h) (Or.inl ⟨by rfl, ?_⟩) (by with_reducible assumption) ?_
        rotate_left
        · intro w hSw; (try dsimp only at hSw); (try go_split_ands); go_simp; (try with_reducible rfl)
        (try simp only [Act.put, List.getElem_toArray, List.getElem_cons_succ, List.getElem_cons_zero, List.setIfInBounds_toArray, List.set_cons_zero, List.set_cons_succ])
        refine wpAnyH_take (i := 11) (v := ?_) rfl (by kernel_rfl) (by kernel_rfl) (by kernel_rfl) (fun _ _ _ h => h) (Or.inl ⟨by rfl, ?_⟩) (by with_reducible assumption) ?_
        rotate_left
        · intro w hSw; (try dsimp only at hSw); (try go_split_ands); go_simp; (try with_reducible rfl)
        (try simp only [Act.put, List.getElem_toArray, List.getElem_cons_succ, List.getElem_cons_zero, List.setIfInBounds_toArray, List.set_cons_zero, List.set_cons_succ])
        refine wpAnyH_take (i := 12) (v := ?_) rfl (by kernel_rfl) (by kernel_rfl) (by kernel_rfl) (fun _ _ _ h => h) (Or.inl ⟨by rfl, ?_⟩) (by with_reducible assumption) ?_
        rotate_left
        · intro w hSw; (try dsimp only at hSw); (try go_split_ands); go_simp; (try with_reducible rfl)
        (try simp only [Act.put, List.getElem_toArray, List.getElem_cons_succ, List.getElem_cons_zero, List.setIfInBounds_toArray, List.set_cons_zero, List.set_cons_succ])
        refine wpAnyH_take (i := 13) (v := ?_) rfl (by kernel_rfl) (by kernel_rfl) (by kernel_rfl) (fun _ _ _ h => h) (Or.inl ⟨by rfl, ?_⟩) (by with_reducible assumption) ?_
        rotate_left
        · intro w hSw; (try dsimp only at hSw); (try go_split_ands); go_simp; (try with_reducible rfl)
        (try simp only [Act.put, List.getElem_toArray, List.getElem_cons_succ, List.getElem_cons_zero, List.setIfInBounds_toArray, List.set_cons_zero, List.set_cons_succ])
        refine wpAnyH_take (i := 14) (v := ?_) rfl (by kernel_rfl) (by kernel_rfl) (by kernel_rfl) (fun _ _ _ h => h) (Or.inl ⟨by rfl, ?_⟩) (by with_reducible assumption) ?_
        rotate_left
        · intro w hSw; (try dsimp only at hSw); (try go_split_ands); go_simp; (try with_reducible rfl)
        (try simp only [Act.put, List.getElem_toArray, List.getElem_cons_succ, List.getElem_cons_zero, List.setIfInBounds_toArray, List.set_cons_zero, List.set_cons_succ])
        refine wpAnyH_take (i := 15) (v := ?_) rfl (by kernel_rfl) (by kernel_rfl) (by kernel_rfl) (fun _ _ _ h => h) (Or.inl ⟨by rfl, ?_⟩) (by with_reducible assumption) ?_
        rotate_left
        · intro w hSw; (try dsimp only at hSw); (try go_split_ands); go_simp; (try with_reducible rfl)
        (try simp only [Act.put, List.getElem_toArray, List.getElem_cons_succ, List.getElem_cons_zero, List.setIfInBounds_toArray, List.set_cons_zero, List.set_cons_succ])
        refine wpAnyH_take (i := 16) (v := ?_) rfl (by kernel_rfl) (by kernel_rfl) (by kernel_rfl) (fun _ _ _ h => h) (Or.inl ⟨by rfl, ?_⟩) (by with_reducible assumption) ?_
        rotate_left
        · intro w hSw; (try dsimp only at hSw); (try go_split_ands); go_simp; (try with_reducible rfl)
        (try simp only [Act.put, List.getElem_toArray, List.getElem_cons_succ, List.getElem_cons_zero, List.setIfInBounds_toArray, List.set_cons_zero, List.set_cons_succ])
        refine wpAnyH_take (i := 19) (v := ?_) rfl (by kernel_rfl) (by kernel_rfl) (by kernel_rfl) (fun _ _ _ h => h) (Or.inl ⟨by rfl, ?_⟩) (by with_reducible assumption) ?_
        rotate_left
        · intro w hSw; (try dsimp only at hSw); (try go_split_ands); go_simp; (try with_reducible rfl)
        (try simp only [Act.put, List.getElem_toArray, List.getElem_cons_succ, List.getElem_cons_zero, List.setIfInBounds_toArray, List.set_cons_zero, List.set_cons_succ])
        refine wpAnyH_take (i := 20) (v := ?_) rfl (by kernel_rfl) (by kernel_rfl) (by kernel_rfl) (fun _ _ _ h => h) (Or.inl ⟨by rfl, ?_⟩) (by with_reducible assumption) ?_
        rotate_left
        · intro w hSw; (try dsimp only at hSw); (try go_split_ands); go_simp; (try with_reducible rfl)
        (try simp only [Act.put, List.getElem_toArray, List.getElem_cons_succ, List.getElem_cons_zero, List.setIfInBounds_toArray, List.set_cons_zero, List.set_cons_succ])
        refine wpAnyH_take (i := 21) (v := ?_) rfl (by kernel_rfl) (by kernel_rfl) (by kernel_rfl) (fun _ _ _ h => h) (Or.inl ⟨by rfl, ?_⟩) (by with_reducible assumption) ?_
        rotate_left
        · intro w hSw; (try dsimp only at hSw); (try go_split_ands); go_simp; (try with_reducible rfl)
        (try simp only [Act.put, List.getElem_toArray, List.getElem_cons_succ, List.getElem_cons_zero, List.setIfInBounds_toArray, List.set_cons_zero, List.set_cons_succ])
        refine wpAnyH_take (i := 22) (v := ?_) rfl (by kernel_rfl) (by kernel_rfl) (by kernel_rfl) (fun _ _ _ h => h) (Or.inl ⟨by rfl, ?_⟩) (by with_reducible assumption) ?_
        rotate_left
        · intro w hSw; (try dsimp only at hSw); (try go_split_ands); go_simp; (try with_reducible rfl)
        (try simp only [Act.put, List.getElem_toArray, List.getElem_cons_succ, List.getElem_cons_zero, List.setIfInBounds_toArray, List.set_cons_zero, List.set_cons_succ])
        refine wpAnyH_ready (rs := [17]) (by kernel_rfl) (by simp) ?_
        refine AllReadyH.cons rfl (fun K3 hK3 => ?_) AllReadyH.nil
        go_simp
        go_at_call 12
        (with_reducible refine (hw5 _ (by exact Below.refl _ _)).mono ?_)
        rintro e w6 ⟨a6, cap6, rfl, hb6⟩
        have hgot6 := hb6.cell (cell_lt hgot)
        rw [hgot] at hgot6
        have hv6 := hb6.cell (cell_lt hv5)
        rw [hv5] at hv6
        have hs6 := hb6.cell (cell_lt hs5)
        rw [hs5] at hs6
        have hc6 := hb6.cell (cell_lt hc5)
        rw [hc5] at hc6
        have HB6 := Hid.out (p := Hid (Below _ _ _)) (HB5.out.trans (hb6.mono HB5.out.size))
        refine hK3.out _ _ ⟨hgot6, hs6, hc6, hv6, hb6⟩ (fun hHeld => ?_)
        clear hK3 K3
        (try simp only [Act.put, List.getElem_toArray, List.getElem_cons_succ, List.getElem_cons_zero, List.setIfInBounds_toArray, List.set_cons_zero, List.set_cons_succ])
        refine wpAnyH_take (i := 18) (v := ?_) rfl (by kernel_rfl) (by kernel_rfl) (by kernel_rfl) (fun _ _ _ h => h) (Or.inl ⟨by rfl, ?_⟩) (by with_reducible assumption) ?_
        rotate_left
        · intro w hSw; (try dsimp only at hSw); (try go_split_ands); go_simp; (try with_reducible rfl)
        (try simp only [Act.put, List.getElem_toArray, List.getElem_cons_succ, List.getElem_cons_zero, List.setIfInBounds_toArray, List.set_cons_zero, List.set_cons_succ])
        refine wpAnyH_take (i := 23) (v := ?_) rfl (by kernel_rfl) (by kernel_rfl) (by kernel_rfl) (fun _ _ _ h => h) (Or.inl ⟨by rfl, ?_⟩) (by with_reducible assumption) ?_
        rotate_left
        · intro w hSw; (try dsimp only at hSw); (try go_split_ands); go_simp; (try with_reducible rfl)
        (try simp only [Act.put, List.getElem_toArray, List.getElem_cons_succ, List.getElem_cons_zero, List.setIfInBounds_toArray, List.set_cons_zero, List.set_cons_succ])
        refine wpAnyH_take (i := 24) (v := ?_) rfl (by kernel_rfl) (by kernel_rfl) (by kernel_rfl) (fun _ _ _ h => h) (Or.inl ⟨by rfl, ?_⟩) (by with_reducible assumption) ?_
        rotate_left
        · intro w hSw; (try dsimp only at hSw); (try go_split_ands); go_simp; (try with_reducible rfl)
        (try simp only [Act.put, List.getElem_toArray, List.getElem_cons_succ, List.getElem_cons_zero, List.setIfInBounds_toArray, List.set_cons_zero, List.set_cons_succ])
        refine wpAnyH_done (by kernel_rfl) ?_ _
        clear hHeld hb6 hs6 hc6
        go_wp2_with (go_at_call 13; refine (unwrap_any b _ _ hv6).mono ?_; rintro e w' ⟨rfl, rfl⟩)
        go_round
        case rel => exact ⟨k + 1, by omega, by go_num, HR.out.below HB6.out, HB.out.trans (HB6.out.mono HB.out.size)⟩
        case measure => simp [intOf]; omega
      · obtain rfl : k = l.length := by omega
        rw [List.drop_length] at he
        obtain rfl : u5 = _ := he
        have hlast := as_last n _ hgr
        have hlr' := hlr
        clear hlr
        go_wp2_with (first
          | (go_at_call 11; (with_reducible refine hlast.mono ?_); rintro e w5 ⟨rfl, hc5, hf5, hb5⟩; have hnum := as_numJ (.iface 22 (.int .i64 n)) [] n _ _ w5 (hgr.below hb5) hc5 hf5 rfl; have hlt5 := cell_lt hc5; have HB5 := Hid.out (p := Hid (Below _ _ _)) hb5; clear hc5 hf5 hb5)
          | (go_at_call 11; (with_reducible refine hnum.mono ?_); rintro e w6 ⟨rfl, hj⟩; have hgot := hj.got; have HB6 := Hid.out (p := Hid (Below wr.heap.size wr w6)) (HB5.out.trans (hj.rest.mono (Nat.le_succ _))); have hway := way_len (.iface 22 (.int .i64 n)) [] n 0 rfl w6 (hgr.below HB6.out) rfl (by decide); clear hj)
          | (go_at_call 12; (with_reducible refine hway.mono ?_); rintro e w7 ⟨a7, cap7, rfl, hb7⟩; have HB7 := Hid.out (p := Hid (Below wr.heap.size wr w7)) (HB6.out.trans (hb7.mono HB6.out.size)); clear hb7))
        go_ret
        exact ⟨rfl, HB.out.trans (HB7.out.mono HB.out.size)⟩
  · go_ret
    exact ⟨rfl, HB1.out⟩
end Go.Proofs.YtgoddepgdgdacaaDoor
