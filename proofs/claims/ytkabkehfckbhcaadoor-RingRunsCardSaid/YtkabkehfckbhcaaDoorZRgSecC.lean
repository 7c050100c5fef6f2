/-
  ring: the reference's Sectors: the changes' bytes.
-/
import Derived.Test.YtkabkehfckbhcaaDoorZRgSecA
namespace Go.Proofs.YtkabkehfckbhcaaDoor
set_option linter.unusedVariables false
set_option linter.unusedSimpArgs false
open Go.RowKit

set_option maxRecDepth 100000 in
set_option maxHeartbeats 8000000 in
theorem sec_chs {W w8 wr0 : World} {sm num k cc : Nat} {ca : Option Addr} {last : List Nat} {l : List CH} {v va0 : Value} (HE : Hid (SecE W w8 sm)) (hk : Hid (k = l.length)) (hk64 : l.length ≤ 64) (hll : last.length = 32) (HC : Hid (IsChs w8 ca l)) (HQ : Hid (SecQ w8 wr0 v (padPg (headB num l.length) :: (List.range ((l.length + 15) / 16)).map (idxPg l)) va0 (last ++ headB num l.length))) {u0 u2 u3 u4 u7 u8 u10 u11 u12 u13 u14 u15 u16 u17 u18 u19 u20 u21 u22 u23 u24 u25 u26 u27 u28 u29 u30 u31 u32 u33 u34 u35 u36 u37 u38 u39 u40 u41 u42 u43 u44 u45 u46 u47 u48 u49 u50 u51 u52 u53 u54 u55 u56 u57 u58 u59 u60 u61 u62 u63 u64 u65 u66 u67 u68 u69 u70 u71 u72 u73 u74 u75 u76 u77 u78 u79 u80 u81 u82 u83 u84 u85 u86 u87 u88 u89 u90 u91 u92 u93 u94 u95 u96 u97 u98 u99 u100 u101 u102 u103 u104 u105 u106 u107 u108 u109 u110 u111 u112 u113 u114 u115 u116 u117 u118 u119 u120 u121 u122 u123 u124 u125 u126 u127 u128 u129 u130 u131 u132 u133 u134 u135 : Value} :
    Code.wp Tryd.prog (restOf Tryd.f12 25) (bodyPost Tryd.prog Tryd.f12 (SecPost W num last l)) ⟨(u0 :: .slice ca k cc :: u2 :: u3 :: u4 :: .pointer (some ⟨sm, 0, none⟩) :: v :: u7 :: u8 :: va0 :: u10 :: u11 :: u12 :: u13 :: u14 :: u15 :: u16 :: u17 :: u18 :: u19 :: u20 :: u21 :: u22 :: u23 :: u24 :: u25 :: u26 :: u27 :: u28 :: u29 :: u30 :: u31 :: u32 :: u33 :: u34 :: u35 :: u36 :: u37 :: u38 :: u39 :: u40 :: u41 :: u42 :: u43 :: u44 :: u45 :: u46 :: u47 :: u48 :: u49 :: u50 :: u51 :: u52 :: u53 :: u54 :: u55 :: u56 :: u57 :: u58 :: u59 :: u60 :: u61 :: u62 :: u63 :: u64 :: u65 :: u66 :: u67 :: u68 :: u69 :: u70 :: u71 :: u72 :: u73 :: u74 :: u75 :: u76 :: u77 :: u78 :: u79 :: u80 :: u81 :: u82 :: u83 :: u84 :: u85 :: u86 :: u87 :: u88 :: u89 :: u90 :: u91 :: u92 :: u93 :: u94 :: u95 :: u96 :: u97 :: u98 :: u99 :: u100 :: u101 :: u102 :: u103 :: u104 :: u105 :: u106 :: u107 :: u108 :: u109 :: u110 :: u111 :: u112 :: u113 :: u114 :: u115 :: u116 :: u117 :: u118 :: u119 :: u120 :: u121 :: u122 :: u123 :: u124 :: u125 :: u126 :: u127 :: u128 :: u129 :: u130 :: u131 :: u132 :: u133 :: u134 :: u135 :: []).toArray, []⟩ wr0 := by
  conv => arg 2; whnf
  have hk2 : k ≤ 64 := by rw [hk.out]; exact hk64
  generalize hIL : (padPg (headB num l.length) :: (List.range ((l.length + 15) / 16)).map (idxPg l)) = IL at *
  have hil : IL.length ≤ 20 := by rw [← hIL]; simp; omega
  have HIL := Lib.hid (And.intro hil hIL)
  clear hil hIL
  go_upto_block 6 with fail
  go_cut [6, 14] (fun v _ wx => Hid (SecQ w8 wx v (padPg (headB num l.length) :: bodyPgs l) va0 (last ++ headB num l.length)))
  case first =>
    go_wp2_with fail
    go_loopw [6, 14] (fun v i wr => ∃ j : Nat, j ≤ k ∧ i = .int .i64 j ∧ Hid (SecQ w8 wr v (IL ++ (l.take j).map (·.2)) va0 (last ++ headB num l.length))) (fun _ i _ => k - (intOf i).toNat)
    case atStart => exact ⟨0, by omega, rfl, by simp only [List.take_zero, List.map_nil, List.append_nil]; exact HQ.out⟩
    case round =>
      obtain ⟨j, hj, rfl, HR⟩ := hrel
      obtain ⟨pa, pn, pc, e, HN⟩ := HR.out.gath.slice'
      subst e
      by_cases hjl : j < k
      · obtain ⟨c, hc⟩ : ∃ c, l[j]? = some c := ⟨_, List.getElem?_eq_getElem (by rw [← hk.out]; exact hjl)⟩
        obtain ⟨b, off, rfl, hbl, hrg⟩ := (HC.out.below HR.out.gath.bel).at_.resolve_left (by rintro rfl; simp at hc)
        have hcok := HC.out.ok c (List.mem_of_getElem? hc)
        have hrw : wr.rangeAt b (off + j * 65 + 1) (bv c.2) := fun i v hv => by
          have := hrg j c hc (i + 1) v (by simpa [chF] using hv)
          rw [show off + j * 65 + 1 + i = off + j * 65 + (i + 1) by omega]
          exact this
        have HP := Lib.hid (And.intro hrw (And.intro hcok.len hc))
        clear hrg hbl hcok hc hrw
        have j1 : (j : Int) < (k : Int) := by omega
        have hlen : pn ≤ 10000 := by have := HIL.out.1; rw [HN.out, List.length_append, List.length_map, List.length_take]; omega
        have HLN := Lib.hid hlen
        clear hlen
        go_wp2_with (first
          | (refine wpList_load_mid (by rfl) 48 (.tmp 111) (by rfl) b (off + j * 65 + 1) (by rfl) (bv c.2) _ HP.out.1 Tryd.underlying48 rfl (by rw [bv_length, HP.out.2.1]; kernel_rfl) ?_)
          | (refine wpList_pg_slice (by rfl) (.tmp 112) (by rfl) c.2 HP.out.2.1 (by rfl) ?_)
          | (refine wpList_app_pgQ (by rfl) (.tmp 107) (.tmp 113) (by rfl) HR.out HN.out.symm HP.out.2.1 (by rfl) (by rfl) HLN.out fun v' w7 q1 => ?_; have H7 := Lib.hid q1; clear q1))
        go_round
        case rel => exact ⟨j + 1, by omega, by go_num, by rw [what_step HP.out.2.2, ← List.append_assoc]; exact H7.out⟩
        case measure => simp [intOf]; omega
      · obtain rfl : j = k := by omega
        have hfin := HR.out
        rw [hk.out, List.take_length, ← HIL.out.2, List.cons_append] at hfin
        have HF := Lib.hid hfin
        clear hfin
        go_wp2_with fail
        go_meet
        exact HF.out
  case rest =>
    rename_i K1 hK1
    refine hK1 _ _ ?_
    exact sec_all HE hk64 hll HC.out.ok hcut
end Go.Proofs.YtkabkehfckbhcaaDoor
