/-
  ring: the reference's Sectors: all bytes.
-/
import Derived.Test.YtkabkehfckbhcaaDoorZRgSecE
namespace Go.Proofs.YtkabkehfckbhcaaDoor
set_option linter.unusedVariables false
set_option linter.unusedSimpArgs false
open Go.RowKit

theorem flat_take (L : List (List Nat)) (h : ∀ p ∈ L, p.length = 64) (j : Nat) : (L.take j).flatten.length ≤ 64 * L.length := by
  rw [flat_pgs _ (fun p hp => h p (List.mem_of_mem_take hp)), List.length_take]
  omega
set_option maxRecDepth 100000 in
set_option maxHeartbeats 8000000 in
theorem sec_all {W w8 wr0 : World} {sm num : Nat} {last : List Nat} {l : List CH} {v va0 : Value} (HE : Hid (SecE W w8 sm)) (hk64 : l.length ≤ 64) (hll : last.length = 32) (hok : ∀ c ∈ l, CHok c) (HQ : Hid (SecQ w8 wr0 v (padPg (headB num l.length) :: bodyPgs l) va0 (last ++ headB num l.length))) {u0 u1 u2 u3 u4 u7 u8 u10 u11 u12 u13 u14 u15 u16 u17 u18 u19 u20 u21 u22 u23 u24 u25 u26 u27 u28 u29 u30 u31 u32 u33 u34 u35 u36 u37 u38 u39 u40 u41 u42 u43 u44 u45 u46 u47 u48 u49 u50 u51 u52 u53 u54 u55 u56 u57 u58 u59 u60 u61 u62 u63 u64 u65 u66 u67 u68 u69 u70 u71 u72 u73 u74 u75 u76 u77 u78 u79 u80 u81 u82 u83 u84 u85 u86 u87 u88 u89 u90 u91 u92 u93 u94 u95 u96 u97 u98 u99 u100 u101 u102 u103 u104 u105 u106 u107 u108 u109 u110 u111 u112 u113 u114 u115 u116 u117 u118 u119 u120 u121 u122 u123 u124 u125 u126 u127 u128 u129 u130 u131 u132 u133 u134 u135 : Value} :
    Code.wp Tryd.prog (restOf Tryd.f12 29) (bodyPost Tryd.prog Tryd.f12 (SecPost W num last l)) ⟨(u0 :: u1 :: u2 :: u3 :: u4 :: .pointer (some ⟨sm, 0, none⟩) :: v :: u7 :: u8 :: va0 :: u10 :: u11 :: u12 :: u13 :: u14 :: u15 :: u16 :: u17 :: u18 :: u19 :: u20 :: u21 :: u22 :: u23 :: u24 :: u25 :: u26 :: u27 :: u28 :: u29 :: u30 :: u31 :: u32 :: u33 :: u34 :: u35 :: u36 :: u37 :: u38 :: u39 :: u40 :: u41 :: u42 :: u43 :: u44 :: u45 :: u46 :: u47 :: u48 :: u49 :: u50 :: u51 :: u52 :: u53 :: u54 :: u55 :: u56 :: u57 :: u58 :: u59 :: u60 :: u61 :: u62 :: u63 :: u64 :: u65 :: u66 :: u67 :: u68 :: u69 :: u70 :: u71 :: u72 :: u73 :: u74 :: u75 :: u76 :: u77 :: u78 :: u79 :: u80 :: u81 :: u82 :: u83 :: u84 :: u85 :: u86 :: u87 :: u88 :: u89 :: u90 :: u91 :: u92 :: u93 :: u94 :: u95 :: u96 :: u97 :: u98 :: u99 :: u100 :: u101 :: u102 :: u103 :: u104 :: u105 :: u106 :: u107 :: u108 :: u109 :: u110 :: u111 :: u112 :: u113 :: u114 :: u115 :: u116 :: u117 :: u118 :: u119 :: u120 :: u121 :: u122 :: u123 :: u124 :: u125 :: u126 :: u127 :: u128 :: u129 :: u130 :: u131 :: u132 :: u133 :: u134 :: u135 :: []).toArray, []⟩ wr0 := by
  conv => arg 2; whnf
  obtain ⟨n, hn⟩ : ∃ n, n = (bodyPgs l).length := ⟨_, rfl⟩
  have hb := bodyPgs_length l
  have hn100 : n ≤ 100 := by rw [hn]; unfold takes at hb; omega
  have hpo := bodyPgs_ok hok
  have HBO := Lib.hid (And.intro hpo hn)
  clear hpo hb hn
  obtain ⟨pa, pn, pc, e, HN⟩ := HQ.out.gath.slice'
  subst e
  have HN' : Hid (pn = n + 1) := Lib.hid (by rw [HN.out, List.length_cons, HBO.out.2])
  clear HN
  go_upto_block 8 with fail
  go_cut [9, 15] (fun va _ wx => Hid (SecQ w8 wx (.slice pa pn pc) (padPg (headB num l.length) :: bodyPgs l) va (sumIn last num l)))
  case first =>
    obtain rfl := HN'.out
    go_wp2_with fail
    go_loopw [9, 15] (fun va i wr => ∃ j : Nat, j ≤ n ∧ i = .int .i64 ((j : Int) + 1) ∧ Hid (SecQ w8 wr (.slice pa (n + 1) pc) (padPg (headB num l.length) :: bodyPgs l) va (last ++ headB num l.length ++ ((bodyPgs l).take j).flatten))) (fun _ i _ => n + 1 - (intOf i).toNat)
    case atStart => exact ⟨0, by omega, rfl, by simp only [List.take_zero, List.flatten_nil, List.append_nil]; exact HQ.out⟩
    case round =>
      obtain ⟨j, hj, rfl, HR⟩ := hrel
      by_cases hjl : j < n
      · obtain ⟨p, hp⟩ : ∃ p, (bodyPgs l)[j]? = some p := ⟨_, List.getElem?_eq_getElem (by rw [← HBO.out.2]; exact hjl)⟩
        have hpo := HBO.out.1 p (List.mem_of_getElem? hp)
        obtain ⟨g, c', e, hrg, _⟩ := HR.out.gath.row.range (k := j + 1) (x := p) (by decide) (by rw [List.getElem?_cons_succ]; exact hp)
        injection e with e1 e2 e3
        clear e2
        subst e1 e3
        have hbt := isBytes_range hrg hpo.2
        have HP := Lib.hid (And.intro hbt (And.intro hpo hp))
        clear hrg hpo hp hbt
        have j1 : (j : Int) + 1 < ((n + 1 : Nat) : Int) := by omega
        have j2 : ((j : Int) + 1).toNat = j + 1 := by omega
        have j3 : (0 : Int) ≤ (j : Int) + 1 := by omega
        obtain ⟨a, m, c, e, HLN⟩ := HR.out.own.slice
        subst e
        have hlen : (last ++ headB num l.length ++ ((bodyPgs l).take j).flatten).length ≤ 100000 := by
          have := flat_take (bodyPgs l) (fun p hp => (HBO.out.1 p hp).1) j
          have h2 := HBO.out.2
          rw [List.length_append, List.length_append, headB_length, hll]
          omega
        have HLE := Lib.hid hlen
        clear hlen
        go_wp2_with (at_builtin; refine wpList_app' rfl (.tmp 121) (.tmp 125) rfl w8.heap.size (.slice a m c) (last ++ headB num l.length ++ ((bodyPgs l).take j).flatten) rfl HR.out.own (some ⟨g, (j + 1) * 64, none⟩) 64 64 p rfl HP.out.2.1.1.symm HP.out.1 (by intro e; cases e) (by have := HLE.out; rw [HP.out.2.1.1]; omega) HR.out.gath.bel.size ?_; intro v9 w9 ho9 hb9 hg9 hv9; have hr9 := HR.out.app ho9 hb9 hg9; have H9 := Lib.hid hr9; clear ho9 hb9 hg9 hv9 hr9)
        go_round
        case rel => exact ⟨j + 1, by omega, by go_num, by rw [List.take_add_one, HP.out.2.2, List.flatten_append, ← List.append_assoc, show (Option.toList (some p)).flatten = p by simp]; exact H9.out⟩
        case measure => simp [intOf]; omega
      · obtain rfl : j = n := by omega
        have hfin := HR.out
        rw [HBO.out.2, List.take_length] at hfin
        have HF := Lib.hid hfin
        clear hfin
        go_wp2_with fail
        go_meet
        rw [← HBO.out.2] at HF
        exact HF.out
  case rest =>
    rename_i K1 hK1
    refine hK1 _ _ ?_
    exact sec_end HE hk64 hll hok hcut
end Go.Proofs.YtkabkehfckbhcaaDoor
