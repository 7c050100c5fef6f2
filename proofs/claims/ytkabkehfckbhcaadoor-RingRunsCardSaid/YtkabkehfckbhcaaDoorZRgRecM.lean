/-
  ring: record, behind the tests of the head.
-/
import Derived.Test.YtkabkehfckbhcaaDoorMgG
import Derived.Test.YtkabkehfckbhcaaDoorZRgRecP
import Derived.Test.YtkabkehfckbhcaaDoorMgA
import Derived.Deep.DeepCutAuto
import Derived.Deep.CutBlock
import Derived.Deep.MidRow
import Derived.Deep.LoopGhost
namespace Go.Proofs.YtkabkehfckbhcaaDoor
set_option linter.unusedVariables false
set_option linter.unusedSimpArgs false
open Go.RowKit

theorem wp_alloc_info {P : Program} {o : Oper} {a : Act} {w : World} {K : Act → World → Prop} {Q : Exit → Act → World → Prop} (t : TypeId) (ho : o.op = .alloc t) (z : Value) (cs : Array Value) (hz : (P.info? t).bind (·.zero) = some z) (hc : z.cells = cs)
    (h : K (a.put o.dst (.pointer (some ⟨w.heap.size, 0, none⟩))) (w.alloc (.cells cs t))) : o.wp P a w K Q := by
  obtain ⟨it, h1, h2⟩ := Option.bind_eq_some_iff.1 hz
  unfold Oper.wp execOp
  simp [ho, Instr.alloc, zeroValue, typeInfo, h1, h2, newVar, newRow, hc]
  exact h
/-- A page laid into a variable. -/
theorem pg_laid {w : World} {pb : Nat} (h : IsBlk w pb (nv .u8 zeroPg) 48) {p : List Nat} (hp : p.length = 64) : IsBlk (w.setCells pb 0 (bv p)) pb (nv .u8 p) 48 ∧ But (fun k => k = pb) w (w.setCells pb 0 (bv p)) ∧ w.there pb 0 64 := by
  have h' : IsBlk w pb (bv zeroPg).toArray 48 := h
  refine ⟨?_, (But.refl (fun k => k = pb) w).setCells (g := pb) rfl _ _, isBlk_there h' 0 64 (by rw [bv_length]; decide)⟩
  refine isBlk_setCells (cs' := bv p) h' (fun i => ?_)
  rw [bv_length, bv_length, hp]
  by_cases hi : i < 64
  · have c : i < zeroPg.length ∧ 0 ≤ i ∧ i < 0 + 64 := ⟨by simpa [zeroPg] using hi, by omega, by omega⟩
    rw [if_pos c, Nat.sub_zero]
  · have c : ¬ (i < zeroPg.length ∧ 0 ≤ i ∧ i < 0 + 64) := by omega
    rw [if_neg c, List.getElem?_eq_none (by rw [bv_length]; omega), List.getElem?_eq_none (by rw [bv_length]; simp [zeroPg]; omega)]
/-- What record is asked of. -/
structure RecH (w : World) (rg db : Nat) (s : RS) (n kk : Nat) (d : DK) : Prop where
  isrg : IsRg 100 w rg db s
  ok : RSok s n
  dk : Dk 0 w db d
  on : OnB n kk d
theorem RecH.below {w w' : World} {rg db : Nat} {s : RS} {n kk : Nat} {d : DK} (h : RecH w rg db s n kk d) (hb : Below w.heap.size w w') : RecH w' rg db s n kk d := ⟨h.isrg.below hb, h.ok, h.dk.below hb, h.on⟩
theorem RecH.n2 {w : World} {rg db : Nat} {s : RS} {n kk : Nat} {d : DK} (h : RecH w rg db s n kk d) : n ≤ 4096 := by
  obtain ⟨fb, mb, cap, cv, hdk⟩ := h.dk
  have h1 := hdk.n2
  rw [h.on.len] at h1
  exact h1
theorem RecH.in_ {w : World} {rg db : Nat} {s : RS} {n kk : Nat} {d : DK} (h : RecH w rg db s n kk d) (i : Nat) : s.first + (s.place + i) % s.n < n := by
  have := Nat.mod_lt (s.place + i) (show 0 < s.n by have := h.ok.n1; omega)
  have := h.ok.fit
  omega
/-- A sector of the ring. -/
theorem RecH.sec {w : World} {rg db : Nat} {s : RS} {n kk : Nat} {d : DK} (h : RecH w rg db s n kk d) (i : Nat) : d.readE ((s.first + (s.place + i) % s.n : Nat) : Int) = 0 ∧ (s.sector d i).length = 64 ∧ ∀ c ∈ s.sector d i, c < 256 := onB_read h.on (h.in_ i)
theorem RecH.at_ {w : World} {rg db : Nat} {s : RS} {n kk : Nat} {d : DK} (h : RecH w rg db s n kk d) (i : Nat) : Calls Tryd.prog 48 #[.pointer (some ⟨rg, 0, none⟩), .int .i64 ((s.place + i : Nat) : Int)] w fun e w' => e = .returned (.int .i64 ((s.first + (s.place + i) % s.n : Nat) : Int)) ∧ Below w.heap.size w w' :=
  (at_any h.isrg (by have := h.ok.n1; omega) h.ok.n2 (by have := h.n2; have := h.ok.fit; omega) (s.place + i)).mono fun e w' ⟨h1, m, h2⟩ => ⟨h1, h2 ▸ drawn_below (Below.refl _ _) m⟩
theorem RecH.read {w : World} {rg db : Nat} {s : RS} {n kk : Nat} {d : DK} (h : RecH w rg db s n kk d) (i : Nat) {X : Nat} (hX : X = s.first + (s.place + i) % s.n) : Calls Tryd.prog 17 #[.pointer (some ⟨db, 0, none⟩), .int .i64 ((X : Nat) : Int)] w fun e w' => e = .returned (.tuple #[pgV (s.sector d i), .nilIface]) ∧ Below w.heap.size w w' := by
  subst hX
  refine (h.dk.read _).mono ?_
  rintro e w' ⟨v, rfl, hv, hb⟩
  rw [(h.sec i).1] at hv
  obtain rfl := res_nil hv
  exact ⟨rfl, hb⟩

/-- What record answers. -/
def RecPost (w : World) (s : RS) (d : DK) : Ending → World → Prop := fun e w' => Below w.heap.size w w' ∧
    (((s.look d).1 = [] ∧ e = .returned (.tuple #[.slice none 0 0, .agg (markL zeroM).toArray, .int .i64 0, .nilIface])) ∨
     ((s.look d).1 ≠ [] ∧ ∃ v, RowF w' w.heap.size 79 65 chF v (s.look d).1 ∧ e = .returned (.tuple #[v, .agg (markL (s.behind (s.look d).1.length (s.look d).2)).toArray, .int .i64 ((takes (s.look d).1.length : Nat) : Int), .nilIface])))
set_option maxRecDepth 100000 in
set_option maxHeartbeats 40000000 in
theorem rec_end {w w1 w2 w3 : World} {rg db n kk rc pb k T : Nat} {s : RS} {d : DK} {p : List Nat}
    (HH : Hid (RecH w rg db s n kk d)) (H1 : Hid (IsBlk w1 rc (markL zeroM).toArray 25 ∧ Below rc w w1 ∧ RecH w1 rg db s n kk d)) (HRC : Hid (w.heap.size = rc))
    (HP : Hid (p = s.sector d 0 ∧ p.length = 64 ∧ (∀ c ∈ p, c < 256) ∧ k = p.getD 9 0)) (hT2 : T ≤ 300) (HT : Hid (T = takes k)) (HB : Hid (IsBlk w3 pb (nv .u8 p) 48 ∧ Below w1.heap.size w1 w3))
    (H03 : Hid (Below w.heap.size w w3 ∧ IsBlk w3 rc (markL zeroM).toArray 25))
    (HLK : Hid (s.look d = if digest (recT s d p (T - 1)) = (p.drop 10).take 32 then ((List.range k).map (chAt s d k), digest (recT s d p (T - 1))) else ([], []))) (hk1 : 1 ≤ k) (hk60 : k ≤ 60) (hTr : T ≤ s.n - s.used)
    {hb lb : Nat} {w8 : World} {v : Value} (HHB : Hid (hb = w3.heap.size)) (HF : Hid (RecR w3 w8 hb lb v k (recT s d p (T - 1)) (recL s d k k k))) {u1 u2 u4 u5 u7 u12 u13 u14 u15 u16 u17 u18 u19 u20 u21 u22 u23 u24 u25 u26 u27 u28 u29 u30 u31 u32 u33 u34 u35 u36 u37 u38 u39 u40 u41 u42 u43 u44 u45 u46 u47 u48 u49 u50 u51 u52 u53 u54 u55 u56 u57 u58 u59 u60 u61 u62 u63 u64 u65 u66 u67 u68 u69 u70 u71 u72 u73 u74 u75 u76 u77 u78 u79 u80 u81 u82 u83 u84 u85 u86 u87 u88 u89 u90 u91 u92 u93 u94 u95 u96 u97 u98 u99 u100 u101 u102 u103 u104 u105 u106 u107 u108 u109 u110 u111 u112 u113 u114 u115 u116 u117 u118 u119 u120 u121 u122 u123 u124 u125 u126 u127 u128 u129 u130 u131 u132 u133 u134 u135 u136 u137 u138 u139 u140 u141 u142 u143 u144 u145 u146 u147 u148 u149 u150 u151 u152 u153 u154 u155 u156 u157 u158 u159 u160 u161 u162 u163 u164 u165 u166 u167 u168 u169 u170 u171 u172 u173 u174 u175 u176 u177 u178 u179 u180 u181 u182 u183 u184 u185 u186 u187 u188 u189 u190 : Value} :
    Code.wp Tryd.prog (restOf Tryd.f39 29) (bodyPost Tryd.prog Tryd.f39 (RecPost w s d)) ⟨(.pointer (some ⟨rg, 0, none⟩) :: u1 :: u2 :: .pointer (some ⟨rc, 0, none⟩) :: u4 :: u5 :: .pointer (some ⟨pb, 0, none⟩) :: u7 :: .int .i64 ((k : Nat) : Int) :: .int .i64 ((T : Nat) : Int) :: .pointer (some ⟨hb, 0, none⟩) :: .slice (some ⟨lb, 0, none⟩) k k :: u12 :: u13 :: u14 :: u15 :: u16 :: u17 :: u18 :: u19 :: u20 :: u21 :: u22 :: u23 :: u24 :: u25 :: u26 :: u27 :: u28 :: u29 :: u30 :: u31 :: u32 :: u33 :: u34 :: u35 :: u36 :: u37 :: u38 :: u39 :: u40 :: u41 :: u42 :: u43 :: u44 :: u45 :: u46 :: u47 :: u48 :: u49 :: u50 :: u51 :: u52 :: u53 :: u54 :: u55 :: u56 :: u57 :: u58 :: u59 :: u60 :: u61 :: u62 :: u63 :: u64 :: u65 :: u66 :: u67 :: u68 :: u69 :: u70 :: u71 :: u72 :: u73 :: u74 :: u75 :: u76 :: u77 :: u78 :: u79 :: u80 :: u81 :: u82 :: u83 :: u84 :: u85 :: u86 :: u87 :: u88 :: u89 :: u90 :: u91 :: u92 :: u93 :: u94 :: u95 :: u96 :: u97 :: u98 :: u99 :: u100 :: u101 :: u102 :: u103 :: u104 :: u105 :: u106 :: u107 :: u108 :: u109 :: u110 :: u111 :: u112 :: u113 :: u114 :: u115 :: u116 :: u117 :: u118 :: u119 :: u120 :: u121 :: u122 :: u123 :: u124 :: u125 :: u126 :: u127 :: u128 :: u129 :: u130 :: u131 :: u132 :: u133 :: u134 :: u135 :: u136 :: u137 :: u138 :: u139 :: u140 :: u141 :: u142 :: u143 :: u144 :: u145 :: u146 :: u147 :: u148 :: u149 :: u150 :: u151 :: u152 :: u153 :: u154 :: u155 :: u156 :: u157 :: u158 :: u159 :: u160 :: u161 :: u162 :: u163 :: u164 :: u165 :: u166 :: u167 :: u168 :: u169 :: u170 :: u171 :: u172 :: u173 :: u174 :: u175 :: u176 :: u177 :: u178 :: u179 :: u180 :: u181 :: u182 :: u183 :: u184 :: u185 :: u186 :: u187 :: u188 :: u189 :: u190 :: []).toArray, []⟩ w8 := by
  conv => arg 2; whnf
  have hsum := sumS HF.out.sum HF.out.hbw
  have hDl : (digest (recT s d p (T - 1))).length = 32 := digest_length _
  generalize hD : digest (recT s d p (T - 1)) = Dg at *
  have HDL := Lib.hid (And.intro hDl hD)
  clear hDl hD
  go_upto_region 30 with (first
    | (go_at_call 47; (with_reducible refine hsum.mono ?_); rintro e w11 ⟨rfl, hb11⟩; have H11 := Lib.hid hb11; clear hb11)
    | (refine wpList_alloc_info (by rfl) 23 (by rfl) (.agg (nv .u8 (List.replicate 32 0))) (nv .u8 (List.replicate 32 0)) (by kernel_rfl) rfl ?_)
    | (refine wpList_store_row (by rfl) 23 (.tmp 18) (.tmp 162) (by rfl) _ (nv .u8 Dg) (by rfl) (by rfl) 23 (nv .u8 (List.replicate 32 0)) (heap_alloc_new _ _) (by rw [nv_size, HDL.out.1]; kernel_rfl) (by rw [nv_size, nv_size, HDL.out.1]; rfl) (nv_one _ _) ?_))
  have hv1 := sum_var w11 Dg
  generalize (w11.alloc (.cells (nv .u8 (List.replicate 32 0)) 23)).setRow w11.heap.size (nv .u8 Dg) = w12 at hv1 ⊢
  have hb8 : Below w8.heap.size w8 w12 := H11.out.trans (hv1.2.mono H11.out.size)
  have hr12 := HF.out.below hb8
  have hb12 : Below w3.heap.size w3 w12 := by rw [HHB.out.symm]; exact hr12.bel
  have H12 := Lib.hid (And.intro hv1.1 (And.intro hr12 hb12))
  generalize w11.heap.size = sb at *
  clear hv1 hb8 hr12 hb12 hsum H11 HF
  have hp12 := HB.out.1.below H12.out.2.2 HB.out.1.lt
  have HP12 := Lib.hid hp12
  clear hp12
  (try simp only [Act.put, List.getElem_toArray, List.getElem_cons_succ, List.getElem_cons_zero, List.setIfInBounds_toArray, List.set_cons_zero, List.set_cons_succ])
  go_cut [167] (fun b wx => b = .bool (!(Dg == (p.drop 10).take 32)) ∧ Hid (IsBlk wx sb (nv .u8 Dg) 23 ∧ RecR w3 wx hb lb v k (recT s d p (T - 1)) (recL s d k k k) ∧ Below w3.heap.size w3 wx))
  case first =>
    refine wp_region_held_drew (S := fun w' => w'.rangeAt pb 10 (bv ((p.drop 10).take 32)) ∧ IsBlk w' sb (nv .u8 Dg) 23) (by kernel_rfl) ⟨fun j u hu => ?_, H12.out.1.drew⟩ (fun hHeld => ?_)
    · have hj : j < 32 := by
        have := (List.getElem?_eq_some_iff.1 hu).1
        rw [bv_length, List.length_take] at this
        omega
      refine (HP12.out.drew).cell (10 + j) ?_
      show (bv p).toArray[10 + j]? = some u
      rw [List.getElem?_toArray, ← hu]
      unfold bv
      simp only [List.getElem?_map, List.getElem?_take, List.getElem?_drop, hj, if_true]
    refine wpAnyH_take (i := 0) (v := .agg (bv Dg).toArray) rfl (by kernel_rfl) (by kernel_rfl) (by kernel_rfl) (fun _ _ _ h => h) (yieldsIf_load_mid (by rfl) 23 (.tmp 18) (by rfl) sb 0 (by rfl) (bv Dg) _ (fun w hS => range_blk hS.2) Tryd.underlying23 rfl (by rw [bv_length, HDL.out.1]; kernel_rfl)) (by with_reducible assumption) ?_
    (try simp only [Act.put, List.getElem_toArray, List.getElem_cons_succ, List.getElem_cons_zero, List.setIfInBounds_toArray, List.set_cons_zero, List.set_cons_succ])
    refine wpAnyH_take (i := 1) (v := ?_) rfl (by kernel_rfl) (by kernel_rfl) (by kernel_rfl) (fun _ _ _ h => h) (Or.inl ⟨by rfl, ?_⟩) (by with_reducible assumption) ?_
    rotate_left
    · intro w hSw; (try dsimp only at hSw); (try go_split_ands); go_simp; (try with_reducible rfl)
    (try simp only [Act.put, List.getElem_toArray, List.getElem_cons_succ, List.getElem_cons_zero, List.setIfInBounds_toArray, List.set_cons_zero, List.set_cons_succ])
    refine wpAnyH_take (i := 2) (v := .pointer (some ⟨pb, 10, none⟩)) rfl (by kernel_rfl) (by kernel_rfl) (by kernel_rfl) (fun _ _ _ h => h) (Or.inl ⟨by rfl, ?_⟩) (by with_reducible assumption) ?_
    · intro w hSw
      go_simp
      rw [run_arrayAt _ Tryd.underlying23 (by decide)]
      rfl
    (try simp only [Act.put, List.getElem_toArray, List.getElem_cons_succ, List.getElem_cons_zero, List.setIfInBounds_toArray, List.set_cons_zero, List.set_cons_succ])
    refine wpAnyH_take (i := 3) (v := .agg (bv ((p.drop 10).take 32)).toArray) rfl (by kernel_rfl) (by kernel_rfl) (by kernel_rfl) (fun _ _ _ h => h) (yieldsIf_load_mid (by rfl) 23 (.tmp 165) (by rfl) pb 10 (by rfl) (bv ((p.drop 10).take 32)) _ (fun w hS => hS.1) Tryd.underlying23 rfl (by rw [bv_length, List.length_take, List.length_drop, HP.out.2.1]; kernel_rfl)) (by with_reducible assumption) ?_
    (try simp only [Act.put, List.getElem_toArray, List.getElem_cons_succ, List.getElem_cons_zero, List.setIfInBounds_toArray, List.set_cons_zero, List.set_cons_succ])
    refine wpAnyH_ready (rs := [4]) (by kernel_rfl) (by simp) ?_
    refine AllReadyH.cons rfl (fun K9 hK9 => ?_) AllReadyH.nil
    rw [if_pos (by rfl)]
    simp only [List.getElem_toArray, List.getElem_cons_succ, List.getElem_cons_zero]
    refine wp_neq_dg (.tmp 163) (.tmp 166) (by rfl) Dg ((p.drop 10).take 32) HDL.out.1 (by rw [List.length_take, List.length_drop, HP.out.2.1]; rfl) (by rfl) (by rfl) ?_
    refine hK9.out _ _ hHeld (fun hHeld => ?_)
    clear hK9 K9 hHeld
    (try simp only [Act.put, List.getElem_toArray, List.getElem_cons_succ, List.getElem_cons_zero, List.setIfInBounds_toArray, List.set_cons_zero, List.set_cons_succ])
    refine wpAnyH_done (by kernel_rfl) ?_ _
    have HL := Lib.hid (And.intro H12.out.1.drew (And.intro (H12.out.2.1.below ((Below.refl _ _).drew)) (H12.out.2.2.drew)))
    go_wp2_with fail
    go_meet
    exact ⟨rfl, HL.out⟩
  case rest =>
    obtain ⟨rfl, HN⟩ := hcut
    obtain ⟨w9, hw9⟩ : ∃ w : World, w = wc := ⟨_, rfl⟩
    subst hw9
    have hb09 : Below w.heap.size w w9 := by
      refine H03.out.1.trans (HN.out.2.2.mono H03.out.1.size)
    have hrc9 : IsBlk w9 rc (markL zeroM).toArray 25 := H03.out.2.below HN.out.2.2 H03.out.2.lt
    have H09 := Lib.hid (And.intro hb09 hrc9)
    clear hb09 hrc9 H12 HP12
    have hlk := HLK.out
    by_cases hE : Dg = (p.drop 10).take 32
    · rw [if_pos hE] at hlk
      rw [show (!(Dg == (p.drop 10).take 32)) = false by rw [← hE]; simp]
      have HLK2 := Lib.hid hlk
      clear hlk hE HLK
      have hrg9 := H1.out.2.2.isrg.below (HB.out.2.trans (HN.out.2.2.mono HB.out.2.size))
      have hpl := HH.out.ok.place
      have hn2 := HH.out.ok.n2
      have hrm : ((s.place : Int) + (T : Int)).tmod (s.n : Int) = (((s.place + takes k) % s.n : Nat) : Int) := by
        rw [← HT.out, show (s.place : Int) + (T : Int) = ((s.place + T : Nat) : Int) by omega]
        exact rem_nat _ _
      have hw1 : IntKind.i64.wrap ((s.place : Int) + (T : Int)) = (s.place : Int) + (T : Int) := (IntWalk.i64_left _).trans (IntWalk.wrap64_in _ ⟨by omega, by omega⟩)
      have hu1 : IntKind.u64.wrap ((s.num : Int) + 1) = (((s.num + 1) % 18446744073709551616 : Nat) : Int) := by rw [IntKind.wrap_u64]; omega
      have hn0 : ¬ ((s.n : Int) = 0) := by have := HH.out.ok.n1; omega
      have hnN : ¬ s.n = 0 := by have := HH.out.ok.n1; omega
      have hn0b : ((s.n : Int) == 0) = false := by simp; have := HH.out.ok.n1; omega
      obtain ⟨P, hPe⟩ : ∃ P, P = (s.place + takes k) % s.n := ⟨_, rfl⟩
      obtain ⟨M, hMe⟩ : ∃ M, M = (s.num + 1) % 18446744073709551616 := ⟨_, rfl⟩
      rw [← hPe] at hrm
      rw [← hMe] at hu1
      have hml : (markL (s.behind k Dg)) = .int .i64 ((P : Nat) : Int) :: .int .u64 ((M : Nat) : Int) :: bv Dg := by rw [hPe, hMe]; rfl
      have HML := Lib.hid hml
      have c3 := hrg9.c3
      have c2 := hrg9.c2
      have c4 := hrg9.c4
      have hrc9 : IsBlk (w9.drew.setCells rc 0 (markL (s.behind k Dg))) rc (markL (s.behind k Dg)).toArray 25 := by
        refine isBlk_setCells (H09.out.2.drew) (fun i => ?_)
        have e1 : (markL (s.behind k Dg)).length = 34 := markL_length (s := s.behind k Dg) HDL.out.1
        have e2 : (markL zeroM).length = 34 := rfl
        rw [e1, e2, Nat.sub_zero]
        by_cases hi : i < 34
        · rw [if_pos (by omega)]
        · rw [if_neg (by omega), List.getElem?_eq_none (by omega), List.getElem?_eq_none (by omega)]
      have hth : w9.drew.there rc 0 34 := isBlk_there H09.out.2.drew 0 34 (by decide)
      have hbt : But (fun j => j = rc) w9 (w9.drew.setCells rc 0 (markL (s.behind k Dg))) := (But.refl (fun j => j = rc) w9).drew.setCells (g := rc) rfl _ _
      have HMK := Lib.hid (And.intro hrc9 (And.intro hth hbt))
      have hsb9 := HN.out.1.drew
      clear hrg9 hrc9 hth hbt hPe hMe hml
      go_upto_region 32 with fail
      refine wp_region_any (by kernel_rfl) ?_
      change wpAny _ _ _ _ _ _ _ (World.drew _)
      refine wpAny_take (i := 0) (v := ?_) rfl (by kernel_rfl) (by kernel_rfl) (by kernel_rfl) (fun _ _ _ h => h) (Or.inl ⟨by rfl, ?_⟩) ?_
      rotate_left
      · intro w; go_simp; (try with_reducible rfl)
      (try simp only [Act.put, List.getElem_toArray, List.getElem_cons_succ, List.getElem_cons_zero, List.setIfInBounds_toArray, List.set_cons_zero, List.set_cons_succ])
      refine wpAny_take (i := 21) (v := ?_) rfl (by kernel_rfl) (by kernel_rfl) (by kernel_rfl) (fun _ _ _ h => h) (Or.inl ⟨by rfl, ?_⟩) ?_
      rotate_left
      · intro w; go_simp; (try with_reducible rfl)
      (try simp only [Act.put, List.getElem_toArray, List.getElem_cons_succ, List.getElem_cons_zero, List.setIfInBounds_toArray, List.set_cons_zero, List.set_cons_succ])
      refine wpAny_take (i := 22) (v := ?_) rfl (by kernel_rfl) (by kernel_rfl) (by kernel_rfl) (fun _ _ _ h => h) (Or.inl ⟨by rfl, ?_⟩) ?_
      rotate_left
      · intro w; go_simp; (try with_reducible rfl)
      (try simp only [Act.put, List.getElem_toArray, List.getElem_cons_succ, List.getElem_cons_zero, List.setIfInBounds_toArray, List.set_cons_zero, List.set_cons_succ])
      refine wpAny_of_till (n := 23) (S := fun w' => w'.cell? ⟨rg, 3, none⟩ = some (.int .i64 ((s.place : Nat) : Int)) ∧ w'.cell? ⟨rg, 2, none⟩ = some (.int .i64 ((s.n : Nat) : Int)) ∧ w'.cell? ⟨rg, 4, none⟩ = some (.int .u64 ((s.num : Nat) : Int)) ∧ IsBlk w' sb (nv .u8 Dg) 23) _ _ _ _ ?_
      have hHeld : (fun w' : World => w'.cell? ⟨rg, 3, none⟩ = some (.int .i64 ((s.place : Nat) : Int)) ∧ w'.cell? ⟨rg, 2, none⟩ = some (.int .i64 ((s.n : Nat) : Int)) ∧ w'.cell? ⟨rg, 4, none⟩ = some (.int .u64 ((s.num : Nat) : Int)) ∧ IsBlk w' sb (nv .u8 Dg) 23) w9.drew := ⟨c3, c2, c4, hsb9⟩
      clear c3 c2 c4 hsb9
      refine wpTill_take (i := 1) (v := ?_) rfl (by kernel_rfl) (by kernel_rfl) (by kernel_rfl) (by kernel_rfl) (fun _ _ _ h => h) (Or.inl ⟨by rfl, ?_⟩) (by with_reducible assumption) ?_
      rotate_left
      · intro w hSw; (try dsimp only at hSw); (try go_split_ands); go_simp; (try with_reducible rfl)
      (try simp only [Act.put, List.getElem_toArray, List.getElem_cons_succ, List.getElem_cons_zero, List.setIfInBounds_toArray, List.set_cons_zero, List.set_cons_succ])
      refine wpTill_take (i := 2) (v := ?_) rfl (by kernel_rfl) (by kernel_rfl) (by kernel_rfl) (by kernel_rfl) (fun _ _ _ h => h) (Or.inl ⟨by rfl, ?_⟩) (by with_reducible assumption) ?_
      rotate_left
      · intro w hSw; (try dsimp only at hSw); (try go_split_ands); go_simp; (try with_reducible rfl)
      (try simp only [Act.put, List.getElem_toArray, List.getElem_cons_succ, List.getElem_cons_zero, List.setIfInBounds_toArray, List.set_cons_zero, List.set_cons_succ])
      refine wpTill_take (i := 3) (v := ?_) rfl (by kernel_rfl) (by kernel_rfl) (by kernel_rfl) (by kernel_rfl) (fun _ _ _ h => h) (Or.inl ⟨by rfl, ?_⟩) (by with_reducible assumption) ?_
      rotate_left
      · intro w hSw; (try dsimp only at hSw); (try go_split_ands); go_simp; (try with_reducible rfl)
      (try simp only [Act.put, List.getElem_toArray, List.getElem_cons_succ, List.getElem_cons_zero, List.setIfInBounds_toArray, List.set_cons_zero, List.set_cons_succ])
      refine wpTill_take (i := 4) (v := ?_) rfl (by kernel_rfl) (by kernel_rfl) (by kernel_rfl) (by kernel_rfl) (fun _ _ _ h => h) (Or.inl ⟨by rfl, ?_⟩) (by with_reducible assumption) ?_
      rotate_left
      · intro w hSw; (try dsimp only at hSw); (try go_split_ands); go_simp; (try with_reducible rfl)
      (try simp only [Act.put, List.getElem_toArray, List.getElem_cons_succ, List.getElem_cons_zero, List.setIfInBounds_toArray, List.set_cons_zero, List.set_cons_succ])
      refine wpTill_take (i := 5) (v := ?_) rfl (by kernel_rfl) (by kernel_rfl) (by kernel_rfl) (by kernel_rfl) (fun _ _ _ h => h) (Or.inl ⟨by rfl, ?_⟩) (by with_reducible assumption) ?_
      rotate_left
      · intro w hSw; (try dsimp only at hSw); (try go_split_ands); go_simp; (try with_reducible rfl)
      (try simp only [Act.put, List.getElem_toArray, List.getElem_cons_succ, List.getElem_cons_zero, List.setIfInBounds_toArray, List.set_cons_zero, List.set_cons_succ])
      refine wpTill_take (i := 6) (v := ?_) rfl (by kernel_rfl) (by kernel_rfl) (by kernel_rfl) (by kernel_rfl) (fun _ _ _ h => h) (Or.inl ⟨by rfl, ?_⟩) (by with_reducible assumption) ?_
      rotate_left
      · intro w hSw; (try dsimp only at hSw); (try go_split_ands); go_simp; (try with_reducible rfl)
      (try simp only [Act.put, List.getElem_toArray, List.getElem_cons_succ, List.getElem_cons_zero, List.setIfInBounds_toArray, List.set_cons_zero, List.set_cons_succ])
      refine wpTill_take (i := 7) (v := ?_) rfl (by kernel_rfl) (by kernel_rfl) (by kernel_rfl) (by kernel_rfl) (fun _ _ _ h => h) (Or.inl ⟨by rfl, ?_⟩) (by with_reducible assumption) ?_
      rotate_left
      · intro w hSw; (try dsimp only at hSw); (try go_split_ands); go_simp; (try with_reducible rfl)
      (try simp only [Act.put, List.getElem_toArray, List.getElem_cons_succ, List.getElem_cons_zero, List.setIfInBounds_toArray, List.set_cons_zero, List.set_cons_succ])
      refine wpTill_take (i := 8) (v := ?_) rfl (by kernel_rfl) (by kernel_rfl) (by kernel_rfl) (by kernel_rfl) (fun _ _ _ h => h) (Or.inl ⟨by rfl, ?_⟩) (by with_reducible assumption) ?_
      rotate_left
      · intro w hSw; (try dsimp only at hSw); (try go_split_ands); go_simp; (try with_reducible rfl)
      (try simp only [Act.put, List.getElem_toArray, List.getElem_cons_succ, List.getElem_cons_zero, List.setIfInBounds_toArray, List.set_cons_zero, List.set_cons_succ])
      refine wpTill_take (i := 9) (v := ?_) rfl (by kernel_rfl) (by kernel_rfl) (by kernel_rfl) (by kernel_rfl) (fun _ _ _ h => h) (Or.inl ⟨by rfl, ?_⟩) (by with_reducible assumption) ?_
      rotate_left
      · intro w hSw; (try dsimp only at hSw); (try go_split_ands); go_simp; (try with_reducible rfl)
      (try simp only [Act.put, List.getElem_toArray, List.getElem_cons_succ, List.getElem_cons_zero, List.setIfInBounds_toArray, List.set_cons_zero, List.set_cons_succ])
      refine wpTill_take (i := 10) (v := ?_) rfl (by kernel_rfl) (by kernel_rfl) (by kernel_rfl) (by kernel_rfl) (fun _ _ _ h => h) (Or.inl ⟨by rfl, ?_⟩) (by with_reducible assumption) ?_
      rotate_left
      · intro w hSw; (try dsimp only at hSw); (try go_split_ands); go_simp; (try with_reducible rfl)
      (try simp only [Act.put, List.getElem_toArray, List.getElem_cons_succ, List.getElem_cons_zero, List.setIfInBounds_toArray, List.set_cons_zero, List.set_cons_succ])
      refine wpTill_take (i := 11) (v := ?_) rfl (by kernel_rfl) (by kernel_rfl) (by kernel_rfl) (by kernel_rfl) (fun _ _ _ h => h) (Or.inl ⟨by rfl, ?_⟩) (by with_reducible assumption) ?_
      rotate_left
      · intro w hSw; (try dsimp only at hSw); (try go_split_ands); go_simp; (try with_reducible rfl)
      (try simp only [Act.put, List.getElem_toArray, List.getElem_cons_succ, List.getElem_cons_zero, List.setIfInBounds_toArray, List.set_cons_zero, List.set_cons_succ])
      refine wpTill_take (i := 12) (v := ?_) rfl (by kernel_rfl) (by kernel_rfl) (by kernel_rfl) (by kernel_rfl) (fun _ _ _ h => h) (Or.inl ⟨by rfl, ?_⟩) (by with_reducible assumption) ?_
      rotate_left
      · intro w hSw; (try dsimp only at hSw); (try go_split_ands); go_simp; (try with_reducible rfl)
      (try simp only [Act.put, List.getElem_toArray, List.getElem_cons_succ, List.getElem_cons_zero, List.setIfInBounds_toArray, List.set_cons_zero, List.set_cons_succ])
      refine wpTill_take (i := 13) (v := ?_) rfl (by kernel_rfl) (by kernel_rfl) (by kernel_rfl) (by kernel_rfl) (fun _ _ _ h => h) (Or.inl ⟨by rfl, ?_⟩) (by with_reducible assumption) ?_
      rotate_left
      · intro w hSw; (try dsimp only at hSw); (try go_split_ands); go_simp; (try with_reducible rfl)
      (try simp only [Act.put, List.getElem_toArray, List.getElem_cons_succ, List.getElem_cons_zero, List.setIfInBounds_toArray, List.set_cons_zero, List.set_cons_succ])
      refine wpTill_take (i := 14) (v := ?_) rfl (by kernel_rfl) (by kernel_rfl) (by kernel_rfl) (by kernel_rfl) (fun _ _ _ h => h) (Or.inl ⟨by rfl, ?_⟩) (by with_reducible assumption) ?_
      rotate_left
      · intro w hSw; (try dsimp only at hSw); (try go_split_ands); go_simp; (try with_reducible rfl)
      (try simp only [Act.put, List.getElem_toArray, List.getElem_cons_succ, List.getElem_cons_zero, List.setIfInBounds_toArray, List.set_cons_zero, List.set_cons_succ])
      refine wpTill_take (i := 15) (v := ?_) rfl (by kernel_rfl) (by kernel_rfl) (by kernel_rfl) (by kernel_rfl) (fun _ _ _ h => h) (Or.inl ⟨by rfl, ?_⟩) (by with_reducible assumption) ?_
      rotate_left
      · intro w hSw; (try dsimp only at hSw); (try go_split_ands); go_simp; (try with_reducible rfl)
      (try simp only [Act.put, List.getElem_toArray, List.getElem_cons_succ, List.getElem_cons_zero, List.setIfInBounds_toArray, List.set_cons_zero, List.set_cons_succ])
      refine wpTill_take (i := 16) (v := ?_) rfl (by kernel_rfl) (by kernel_rfl) (by kernel_rfl) (by kernel_rfl) (fun _ _ _ h => h) (Or.inl ⟨by rfl, ?_⟩) (by with_reducible assumption) ?_
      rotate_left
      · intro w hSw; (try dsimp only at hSw); (try go_split_ands); go_simp; (try with_reducible rfl)
      (try simp only [Act.put, List.getElem_toArray, List.getElem_cons_succ, List.getElem_cons_zero, List.setIfInBounds_toArray, List.set_cons_zero, List.set_cons_succ])
      refine wpTill_take (i := 17) (v := ?_) rfl (by kernel_rfl) (by kernel_rfl) (by kernel_rfl) (by kernel_rfl) (fun _ _ _ h => h) (Or.inl ⟨by rfl, ?_⟩) (by with_reducible assumption) ?_
      rotate_left
      · intro w hSw; (try dsimp only at hSw); (try go_split_ands); go_simp; (try with_reducible rfl)
      (try simp only [Act.put, List.getElem_toArray, List.getElem_cons_succ, List.getElem_cons_zero, List.setIfInBounds_toArray, List.set_cons_zero, List.set_cons_succ])
      refine wpTill_take (i := 18) (v := ?_) rfl (by kernel_rfl) (by kernel_rfl) (by kernel_rfl) (by kernel_rfl) (fun _ _ _ h => h) (Or.inl ⟨by rfl, ?_⟩) (by with_reducible assumption) ?_
      rotate_left
      · intro w hSw; (try dsimp only at hSw); (try go_split_ands); go_simp; (try with_reducible rfl)
      (try simp only [Act.put, List.getElem_toArray, List.getElem_cons_succ, List.getElem_cons_zero, List.setIfInBounds_toArray, List.set_cons_zero, List.set_cons_succ])
      refine wpTill_take (i := 19) (v := .agg (bv Dg).toArray) rfl (by kernel_rfl) (by kernel_rfl) (by kernel_rfl) (by kernel_rfl) (fun _ _ _ h => h) (yieldsIf_load_mid (by rfl) 23 (.tmp 18) (by rfl) sb 0 (by rfl) (bv Dg) _ (fun w hS => range_blk hS.2.2.2) Tryd.underlying23 rfl (by rw [bv_length, HDL.out.1]; kernel_rfl)) (by with_reducible assumption) ?_
      (try simp only [Act.put, List.getElem_toArray, List.getElem_cons_succ, List.getElem_cons_zero, List.setIfInBounds_toArray, List.set_cons_zero, List.set_cons_succ])
      refine wpTill_take (i := 20) (v := .agg (markL (s.behind k Dg)).toArray) rfl (by kernel_rfl) (by kernel_rfl) (by kernel_rfl) (by kernel_rfl) (fun _ _ _ h => h) (yieldsIf_build (by rfl) 25 #[(0, .tmp 181), (1, .tmp 187), (2, .tmp 188)] (by rfl) _ (by rw [HML.out]; exact built_mark ((P : Nat) : Int) ((M : Nat) : Int) Dg HDL.out.1)) (by with_reducible assumption) ?_
      (try simp only [Act.put, List.getElem_toArray, List.getElem_cons_succ, List.getElem_cons_zero, List.setIfInBounds_toArray, List.set_cons_zero, List.set_cons_succ])
      refine wpTill_last (by kernel_rfl) ?_
      refine wpAny_ready (rs := [23]) (by kernel_rfl) (by simp) ?_
      refine AllReady.cons rfl (fun K9 hK9 => ?_) AllReady.nil
      rw [if_pos (by rfl)]
      simp only [List.getElem_toArray, List.getElem_cons_succ, List.getElem_cons_zero]
      have hmlen : (markL (s.behind k Dg)).length = 34 := markL_length (s := s.behind k Dg) HDL.out.1
      refine wp_store_mid 25 (.tmp 3) (.tmp 189) (by rfl) rc 0 (markL (s.behind k Dg)).toArray (by rfl) (by rfl) (by rw [List.size_toArray, hmlen]; exact HMK.out.2.1) (by rw [List.size_toArray, hmlen]; kernel_rfl) (markL_one _) ?_
      refine hK9 _ _ ?_
      clear hK9 K9 hHeld hmlen
      (try simp only [Act.put, List.getElem_toArray, List.getElem_cons_succ, List.getElem_cons_zero, List.setIfInBounds_toArray, List.set_cons_zero, List.set_cons_succ])
      refine wpAny_take (i := 24) (v := ?_) rfl (by kernel_rfl) (by kernel_rfl) (by kernel_rfl) (fun _ _ _ h => h) (Or.inl ⟨by rfl, ?_⟩) ?_
      rotate_left
      · intro w; go_simp; (try with_reducible rfl)
      (try simp only [Act.put, List.getElem_toArray, List.getElem_cons_succ, List.getElem_cons_zero, List.setIfInBounds_toArray, List.set_cons_zero, List.set_cons_succ])
      refine wpAny_take (i := 25) (v := ?_) rfl (by kernel_rfl) (by kernel_rfl) (by kernel_rfl) (fun _ _ _ h => h) (Or.inl ⟨by rfl, ?_⟩) ?_
      rotate_left
      · intro w; go_simp; (try with_reducible rfl)
      (try simp only [Act.put, List.getElem_toArray, List.getElem_cons_succ, List.getElem_cons_zero, List.setIfInBounds_toArray, List.set_cons_zero, List.set_cons_succ])
      refine wpAny_done (by kernel_rfl) ?_ _
      have hrow : RowF (w9.drew.setCells rc 0 (markL (s.behind k Dg))) w.heap.size 79 65 chF (.slice (some ⟨lb, 0, none⟩) k k) (recL s d k k k) := by
        have hle : w.heap.size ≤ hb := by rw [HHB.out]; exact H03.out.1.size
        refine (HN.out.2.1.row.but HMK.out.2.2 (fun j hj e => ?_)).mono hle
        have h1 := HN.out.2.1.row.base_le j hj
        have h2 := H03.out.2.lt
        have h3 := HHB.out
        omega
      rw [recL_full _ _ _ _ _ (Nat.le_refl _) (Nat.le_refl _)] at hrow
      have hbf : Below w.heap.size w (w9.drew.setCells rc 0 (markL (s.behind k Dg))) := H09.out.1.trans (HMK.out.2.2.below H09.out.1.size (fun j hj => by rw [hj]; exact Nat.le_of_eq HRC.out))
      have HF2 := Lib.hid (And.intro hrow (And.intro hbf HMK.out.1))
      clear hrow hbf HMK
      change Exit.then _ _ _ _ (w9.drew.setCells rc 0 (markL (s.behind k Dg)))
      generalize w9.drew.setCells rc 0 (markL (s.behind k Dg)) = wz at HF2 ⊢
      go_wp2_with fail
      refine record_ret (m := s.behind k Dg) HDL.out.1 HF2.out.2.2 (v := .slice (some ⟨lb, 0, none⟩) k k) (x := .int .i64 ((T : Nat) : Int)) (y := .nilIface) rfl rfl rfl rfl rfl ⟨HF2.out.2.1, .inr ⟨?_, .slice (some ⟨lb, 0, none⟩) k k, ?_, ?_⟩⟩
      · rw [HLK2.out]; intro e; have := congrArg List.length e; simp at this; omega
      · rw [HLK2.out]; exact HF2.out.1
      · rw [HLK2.out]; simp only [List.length_map, List.length_range]; rw [← HT.out]
    · rw [if_neg hE] at hlk
      rw [show (!(Dg == (p.drop 10).take 32)) = true by simp [hE]]
      clear hE HLK
      go_wp2_with (refine wpList_store_row (by rfl) 25 (.tmp 3) (.tmp 168) (by rfl) rc (markL zeroM).toArray (by rfl) (by rfl) 25 (markL zeroM).toArray (by exact H09.out.2) (mark_info (s := zeroM) rfl) (by rfl) (markL_one _) ?_)
      refine record_ret (m := zeroM) rfl (isBlk_setRow H09.out.2 _) rfl rfl rfl rfl rfl ⟨below_setRow H09.out.1 _ (Nat.le_of_eq HRC.out) _, .inl ⟨by rw [hlk], rfl⟩⟩
set_option maxRecDepth 100000 in
set_option maxHeartbeats 40000000 in
theorem rec_main {w w1 w2 w3 : World} {rg db n kk rc pb k T : Nat} {s : RS} {d : DK} {p : List Nat}
    (HH : Hid (RecH w rg db s n kk d)) (H1 : Hid (IsBlk w1 rc (markL zeroM).toArray 25 ∧ Below rc w w1 ∧ RecH w1 rg db s n kk d)) (HRC : Hid (w.heap.size = rc))
    (HP : Hid (p = s.sector d 0 ∧ p.length = 64 ∧ (∀ c ∈ p, c < 256) ∧ k = p.getD 9 0)) (hT2 : T ≤ 300) (HT : Hid (T = takes k)) (HB : Hid (IsBlk w3 pb (nv .u8 p) 48 ∧ Below w1.heap.size w1 w3))
    (H03 : Hid (Below w.heap.size w w3 ∧ IsBlk w3 rc (markL zeroM).toArray 25))
    (HLK : Hid (s.look d = if digest (recT s d p (T - 1)) = (p.drop 10).take 32 then ((List.range k).map (chAt s d k), digest (recT s d p (T - 1))) else ([], []))) (hk1 : 1 ≤ k) (hk60 : k ≤ 60) (hTr : T ≤ s.n - s.used) {u1 u2 u4 u5 u7 u10 u11 u12 u13 u14 u15 u16 u17 u18 u19 u20 u21 u22 u23 u24 u25 u26 u27 u28 u29 u30 u31 u32 u33 u34 u35 u36 u37 u38 u39 u40 u41 u42 u43 u44 u45 u46 u47 u48 u49 u50 u51 u52 u53 u54 u55 u56 u57 u58 u59 u60 u61 u62 u63 u64 u65 u66 u67 u68 u69 u70 u71 u72 u73 u74 u75 u76 u77 u78 u79 u80 u81 u82 u83 u84 u85 u86 u87 u88 u89 u90 u91 u92 u93 u94 u95 u96 u97 u98 u99 u100 u101 u102 u103 u104 u105 u106 u107 u108 u109 u110 u111 u112 u113 u114 u115 u116 u117 u118 u119 u120 u121 u122 u123 u124 u125 u126 u127 u128 u129 u130 u131 u132 u133 u134 u135 u136 u137 u138 u139 u140 u141 u142 u143 u144 u145 u146 u147 u148 u149 u150 u151 u152 u153 u154 u155 u156 u157 u158 u159 u160 u161 u162 u163 u164 u165 u166 u167 u168 u169 u170 u171 u172 u173 u174 u175 u176 u177 u178 u179 u180 u181 u182 u183 u184 u185 u186 u187 u188 u189 u190 : Value} :
    Code.wp Tryd.prog (restOf Tryd.f39 8) (bodyPost Tryd.prog Tryd.f39 (RecPost w s d)) ⟨(.pointer (some ⟨rg, 0, none⟩) :: u1 :: u2 :: .pointer (some ⟨rc, 0, none⟩) :: u4 :: u5 :: .pointer (some ⟨pb, 0, none⟩) :: u7 :: .int .i64 ((k : Nat) : Int) :: .int .i64 ((T : Nat) : Int) :: u10 :: u11 :: u12 :: u13 :: u14 :: u15 :: u16 :: u17 :: u18 :: u19 :: u20 :: u21 :: u22 :: u23 :: u24 :: u25 :: u26 :: u27 :: u28 :: u29 :: u30 :: u31 :: u32 :: u33 :: u34 :: u35 :: u36 :: u37 :: u38 :: u39 :: u40 :: u41 :: u42 :: u43 :: u44 :: u45 :: u46 :: u47 :: u48 :: u49 :: u50 :: u51 :: u52 :: u53 :: u54 :: u55 :: u56 :: u57 :: u58 :: u59 :: u60 :: u61 :: u62 :: u63 :: u64 :: u65 :: u66 :: u67 :: u68 :: u69 :: u70 :: u71 :: u72 :: u73 :: u74 :: u75 :: u76 :: u77 :: u78 :: u79 :: u80 :: u81 :: u82 :: u83 :: u84 :: u85 :: u86 :: u87 :: u88 :: u89 :: u90 :: u91 :: u92 :: u93 :: u94 :: u95 :: u96 :: u97 :: u98 :: u99 :: u100 :: u101 :: u102 :: u103 :: u104 :: u105 :: u106 :: u107 :: u108 :: u109 :: u110 :: u111 :: u112 :: u113 :: u114 :: u115 :: u116 :: u117 :: u118 :: u119 :: u120 :: u121 :: u122 :: u123 :: u124 :: u125 :: u126 :: u127 :: u128 :: u129 :: u130 :: u131 :: u132 :: u133 :: u134 :: u135 :: u136 :: u137 :: u138 :: u139 :: u140 :: u141 :: u142 :: u143 :: u144 :: u145 :: u146 :: u147 :: u148 :: u149 :: u150 :: u151 :: u152 :: u153 :: u154 :: u155 :: u156 :: u157 :: u158 :: u159 :: u160 :: u161 :: u162 :: u163 :: u164 :: u165 :: u166 :: u167 :: u168 :: u169 :: u170 :: u171 :: u172 :: u173 :: u174 :: u175 :: u176 :: u177 :: u178 :: u179 :: u180 :: u181 :: u182 :: u183 :: u184 :: u185 :: u186 :: u187 :: u188 :: u189 :: u190 :: []).toArray, []⟩ w3 := by
  conv => arg 2; whnf
  go_upto_region 9 with (go_at_call 45; (with_reducible refine (newS _).mono ?_); rintro e w4 ⟨rfl, hb4, hs4, hi4⟩; have H4 := Lib.hid (And.intro hb4 (And.intro hs4 hi4)); clear hb4 hs4 hi4)
  have hb14 : Below w1.heap.size w1 w4 := HB.out.2.trans (H4.out.1.mono HB.out.2.size)
  have hrg4 := H1.out.2.2.isrg.below hb14
  have hbl4 := isBytes_range hrg4.last HH.out.ok.byte
  have hwr := writeS (k := 32) (c := 32) H4.out.2.2 HH.out.ok.len.symm hbl4 (by intro e; cases e) (by decide) (Nat.le_of_lt H4.out.2.1) (by intro x hx _; cases hx; exact Nat.ne_of_lt (Nat.lt_of_lt_of_le H1.out.2.2.isrg.lt HB.out.2.size))
  rw [List.nil_append] at hwr
  have HR4 := Lib.hid hrg4
  obtain ⟨hb, hhb⟩ : ∃ hb, hb = w3.heap.size := ⟨_, rfl⟩
  rw [← hhb] at hwr H4
  have HHB := Lib.hid hhb
  rw [← hhb]
  clear hhb hb14 hrg4 hbl4
  go_upto_region 10 with (go_at_call 46; (with_reducible refine hwr.mono ?_); rintro e w5 ⟨rfl, v5, hi5, hb5, -⟩; have H5 := Lib.hid (And.intro hi5 (H4.out.1.trans (sum_below H4.out.2.2 hb5 (Nat.le_of_lt H4.out.2.1)))); clear hi5 hb5)
  clear hwr HR4
  have hb35 : Below w3.heap.size w3 w5 := H5.out.2.mono (Nat.le_of_eq HHB.out.symm)
  have hp5 := HB.out.1.below hb35 HB.out.1.lt
  have hbl5 : IsBytes w5 (some ⟨pb, 0, none⟩) (p.take 10) := isBytes_blk hp5 0 (fun c hc => HP.out.2.2.1 c (List.mem_of_mem_take hc)) (fun i hi => by rw [Nat.zero_add, List.getElem?_take]; rw [List.length_take] at hi; rw [if_pos (by omega)])
  have hwr := writeS (k := 10) (c := 64) H5.out.1 (by rw [List.length_take, HP.out.2.1]; rfl) hbl5 (by intro e; cases e) (by decide) (by rw [HHB.out]; exact hb35.size) (by intro x hx _; cases hx; rw [HHB.out]; exact Nat.ne_of_lt HB.out.1.lt)
  go_upto_region 11 with (go_at_call 46; (with_reducible refine hwr.mono ?_); rintro e w6 ⟨rfl, v6, hi6, hb6, -⟩; have H6 := Lib.hid (And.intro hi6 (H5.out.2.trans (sum_below H5.out.1 hb6 (by rw [HHB.out]; exact H5.out.2.mono (Nat.le_of_eq HHB.out.symm) |>.size)))); clear hi6 hb6)
  clear hwr hbl5 hp5 hb35 H5 H4
  obtain ⟨it, z, hi1, hi2, hi3, hi4, hi5⟩ := ch_typ
  have HI := Lib.hid (And.intro hi1 (And.intro hi2 (And.intro hi3 (And.intro hi4 hi5))))
  clear hi1 hi2 hi3 hi4 hi5
  go_upto_region 12 with (refine wpList_make_full w6 (by rfl) (.tmp 89) (.tmp 89) 46 (by rfl) w6.heap.size 79 it z 65 Tryd.underlying46 HI.out.1 HI.out.2.1 HI.out.2.2.1 .i64 .i64 _ _ k (by rfl) (by rfl) rfl rfl (by rw [HI.out.2.2.2.1]; omega) (by unfold maxLen; omega) (Nat.le_refl _) ?_; intro w7 q1 q2; have HQ := Lib.hid (And.intro q1 q2); clear q1 q2)
  have hrow : RowF w7 w6.heap.size 79 65 chF (.slice (some ⟨w6.heap.size, 0, none⟩) k k) (List.replicate k (0, zeroPg)) := RowF.made (by rfl) (by decide) HI.out.2.2.2.2 HQ.out.1
  have hb67 : Below w6.heap.size w6 w7 := (Below.refl _ _).grown HQ.out.2 (Nat.le_refl _) (fun k hk => by cases hk)
  have hs6 : hb < w6.heap.size := H6.out.1.blk.lt
  have hR7 : RecR w3 w7 hb w6.heap.size v6 k (recT s d p 0) (recL s d k 0 0) := by
    rw [recT_zero, recL_none]
    refine ⟨H6.out.1.below hb67, hrow.mono (Nat.le_of_lt hs6), H6.out.2.trans (hb67.mono (Nat.le_of_lt hs6)), HHB.out.symm, Nat.ne_of_gt hs6, fun e => ?_⟩
    have := H6.out.1.own.lt _ e
    omega
  have HR7 := Lib.hid hR7
  generalize w6.heap.size = lb at *
  clear hR7 hrow hb67 hs6 HQ HI H6
  go_upto_block 0 with fail
  go_cut [12] (fun _ wx => ∃ v, Hid (RecR w3 wx hb lb v k (recT s d p (T - 1)) (recL s d k k k)))
  case first =>
    go_wp2_with fail
    have hT1 : 1 ≤ T := by rw [HT.out]; unfold takes; omega
    go_loopw [12] (fun i wr => ∃ j : Nat, ∃ v, j + 1 ≤ T ∧ i = .int .i64 ((j : Int) + 1) ∧ Hid (RecR w3 wr hb lb v k (recT s d p j) (recL s d k (16 * j) (j - (k + 15) / 16)))) (fun i _ => T - (intOf i).toNat)
    case atStart => exact ⟨0, v6, by omega, rfl, by rw [Nat.zero_sub]; exact HR7.out⟩
    case round =>
      obtain ⟨j, v, hj, rfl, HR⟩ := hrel
      by_cases hjl : j + 1 < T
      · obtain ⟨q, hq⟩ : ∃ q, q = s.sector d (j + 1) := ⟨_, rfl⟩
        have hqs := HH.out.sec (j + 1)
        rw [← hq] at hqs
        have HQ := Lib.hid (And.intro hq (And.intro hqs.2.1 hqs.2.2))
        clear hq hqs
        have hb1r : Below w1.heap.size w1 wr := HB.out.2.trans (HR.out.bel.mono (by rw [HHB.out]; exact HB.out.2.size))
        have HRR := Lib.hid (H1.out.2.2.below hb1r)
        clear hb1r
        have jT : (j : Int) + 1 < (T : Int) := by omega
        go_upto_region 15 with fail
        go_cut [13, 14] (fun a b wx => ∃ qb : Nat, a = .pointer (some ⟨qb, 0, none⟩) ∧ b = .nilIface ∧ Hid (IsBlk wx qb (nv .u8 q) 48 ∧ Below wr.heap.size wr wx ∧ wr.heap.size ≤ qb))
        case first =>
          -- <
          have c0 := HRR.out.isrg.c0
          have c3 := HRR.out.isrg.c3
          have hpl := HH.out.ok.place
          have hn2 := HH.out.ok.n2
          have hw64 : IntKind.i64.wrap ((s.place : Int) + ((j : Int) + 1)) = (s.place : Int) + ((j : Int) + 1) := (IntWalk.i64_left _).trans (IntWalk.wrap64_in _ ⟨by omega, by omega⟩)
          refine wp_region_held_drew (S := fun w' => w'.cell? ⟨rg, 0, none⟩ = some (.pointer (some ⟨db, 0, none⟩)) ∧ w'.cell? ⟨rg, 3, none⟩ = some (.int .i64 ((s.place : Nat) : Int)) ∧ Below wr.heap.size wr w') (by kernel_rfl) ⟨c0, c3, (Below.refl _ _).drew⟩ (fun hHeld => ?_)
          have HC := Lib.hid (And.intro c0 c3)
          clear c0 c3
          obtain ⟨X, hX⟩ : ∃ X, X = s.first + (s.place + (j + 1)) % s.n := ⟨_, rfl⟩
          have HX := Lib.hid hX
          clear hX
          refine wpAnyH_take (i := 0) (v := ?_) rfl (by kernel_rfl) (by kernel_rfl) (by kernel_rfl) (fun _ _ _ h => h) (Or.inl ⟨by rfl, ?_⟩) (by with_reducible assumption) ?_
          rotate_left
          · intro w hSw; (try dsimp only at hSw); (try go_split_ands); go_simp; (try with_reducible rfl)
          (try simp only [Act.put, List.getElem_toArray, List.getElem_cons_succ, List.getElem_cons_zero, List.setIfInBounds_toArray, List.set_cons_zero, List.set_cons_succ])
          refine wpAnyH_take (i := 1) (v := ?_) rfl (by kernel_rfl) (by kernel_rfl) (by kernel_rfl) (fun _ _ _ h => h) (Or.inl ⟨by rfl, ?_⟩) (by with_reducible assumption) ?_
          rotate_left
          · intro w hSw; (try dsimp only at hSw); (try go_split_ands); go_simp; (try with_reducible rfl)
          (try simp only [Act.put, List.getElem_toArray, List.getElem_cons_succ, List.getElem_cons_zero, List.setIfInBounds_toArray, List.set_cons_zero, List.set_cons_succ])
          refine wpAnyH_take (i := 2) (v := ?_) rfl (by kernel_rfl) (by kernel_rfl) (by kernel_rfl) (fun _ _ _ h => h) (Or.inl ⟨by rfl, ?_⟩) (by with_reducible assumption) ?_
          rotate_left
          · intro w hSw; (try dsimp only at hSw); (try go_split_ands); go_simp; (try with_reducible rfl)
          (try simp only [Act.put, List.getElem_toArray, List.getElem_cons_succ, List.getElem_cons_zero, List.setIfInBounds_toArray, List.set_cons_zero, List.set_cons_succ])
          refine wpAnyH_take (i := 3) (v := ?_) rfl (by kernel_rfl) (by kernel_rfl) (by kernel_rfl) (fun _ _ _ h => h) (Or.inl ⟨by rfl, ?_⟩) (by with_reducible assumption) ?_
          rotate_left
          · intro w hSw; (try dsimp only at hSw); (try go_split_ands); go_simp; (try with_reducible rfl)
          (try simp only [Act.put, List.getElem_toArray, List.getElem_cons_succ, List.getElem_cons_zero, List.setIfInBounds_toArray, List.set_cons_zero, List.set_cons_succ])
          refine wpAnyH_take (i := 4) (v := ?_) rfl (by kernel_rfl) (by kernel_rfl) (by kernel_rfl) (fun _ _ _ h => h) (Or.inl ⟨by rfl, ?_⟩) (by with_reducible assumption) ?_
          rotate_left
          · intro w hSw; (try dsimp only at hSw); (try go_split_ands); go_simp; (try with_reducible rfl)
          (try simp only [Act.put, List.getElem_toArray, List.getElem_cons_succ, List.getElem_cons_zero, List.setIfInBounds_toArray, List.set_cons_zero, List.set_cons_succ])
          refine wpAnyH_take (i := 5) (v := ?_) rfl (by kernel_rfl) (by kernel_rfl) (by kernel_rfl) (fun _ _ _ h => h) (Or.inl ⟨by rfl, ?_⟩) (by with_reducible assumption) ?_
          rotate_left
          · intro w hSw; (try dsimp only at hSw); (try go_split_ands); go_simp; (try with_reducible rfl)
          (try simp only [Act.put, List.getElem_toArray, List.getElem_cons_succ, List.getElem_cons_zero, List.setIfInBounds_toArray, List.set_cons_zero, List.set_cons_succ])
          refine wpAnyH_take (i := 6) (v := ?_) rfl (by kernel_rfl) (by kernel_rfl) (by kernel_rfl) (fun _ _ _ h => h) (Or.inl ⟨by rfl, ?_⟩) (by with_reducible assumption) ?_
          rotate_left
          · intro w hSw; (try dsimp only at hSw); (try go_split_ands); go_simp; (try with_reducible rfl)
          (try simp only [Act.put, List.getElem_toArray, List.getElem_cons_succ, List.getElem_cons_zero, List.setIfInBounds_toArray, List.set_cons_zero, List.set_cons_succ])
          refine wpAnyH_take (i := 7) (v := ?_) rfl (by kernel_rfl) (by kernel_rfl) (by kernel_rfl) (fun _ _ _ h => h) (Or.inl ⟨by rfl, ?_⟩) (by with_reducible assumption) ?_
          rotate_left
          · intro w hSw; (try dsimp only at hSw); (try go_split_ands); go_simp; (try with_reducible rfl)
          (try simp only [Act.put, List.getElem_toArray, List.getElem_cons_succ, List.getElem_cons_zero, List.setIfInBounds_toArray, List.set_cons_zero, List.set_cons_succ])
          refine wpAnyH_take (i := 8) (v := ?_) rfl (by kernel_rfl) (by kernel_rfl) (by kernel_rfl) (fun _ _ _ h => h) (Or.inl ⟨by rfl, ?_⟩) (by with_reducible assumption) ?_
          rotate_left
          · intro w hSw; (try dsimp only at hSw); (try go_split_ands); go_simp; (try with_reducible rfl)
          (try simp only [Act.put, List.getElem_toArray, List.getElem_cons_succ, List.getElem_cons_zero, List.setIfInBounds_toArray, List.set_cons_zero, List.set_cons_succ])
          refine wpAnyH_take (i := 9) (v := ?_) rfl (by kernel_rfl) (by kernel_rfl) (by kernel_rfl) (fun _ _ _ h => h) (Or.inl ⟨by rfl, ?_⟩) (by with_reducible assumption) ?_
          rotate_left
          · intro w hSw; (try dsimp only at hSw); (try go_split_ands); go_simp; (try with_reducible rfl)
          (try simp only [Act.put, List.getElem_toArray, List.getElem_cons_succ, List.getElem_cons_zero, List.setIfInBounds_toArray, List.set_cons_zero, List.set_cons_succ])
          refine wpAnyH_take (i := 10) (v := ?_) rfl (by kernel_rfl) (by kernel_rfl) (by kernel_rfl) (fun _ _ _ h => h) (Or.inl ⟨by rfl, ?_⟩) (by with_reducible assumption) ?_
          rotate_left
          · intro w hSw; (try dsimp only at hSw); (try go_split_ands); go_simp; (try with_reducible rfl)
          (try simp only [Act.put, List.getElem_toArray, List.getElem_cons_succ, List.getElem_cons_zero, List.setIfInBounds_toArray, List.set_cons_zero, List.set_cons_succ])
          refine wpAnyH_take (i := 11) (v := ?_) rfl (by kernel_rfl) (by kernel_rfl) (by kernel_rfl) (fun _ _ _ h => h) (Or.inl ⟨by rfl, ?_⟩) (by with_reducible assumption) ?_
          rotate_left
          · intro w hSw; (try dsimp only at hSw); (try go_split_ands); go_simp; (try with_reducible rfl)
          (try simp only [Act.put, List.getElem_toArray, List.getElem_cons_succ, List.getElem_cons_zero, List.setIfInBounds_toArray, List.set_cons_zero, List.set_cons_succ])
          refine wpAnyH_ready (rs := [12, 17]) (by kernel_rfl) (by simp) ?_
          refine AllReadyH.cons rfl (fun K9 hK9 => ?_) (AllReadyH.cons rfl (fun K9 hK9 => ?_) AllReadyH.nil)
          · skip
            have hat := (HRR.out.below hHeld.2.2).at_ (j + 1)
            rw [← HX.out, show ((s.place + (j + 1) : Nat) : Int) = (s.place : Int) + ((j : Int) + 1) by omega] at hat
            go_simp
            go_wp2_with (go_at_call 48; (with_reducible refine hat.mono ?_); rintro e wA ⟨rfl, hbA⟩; have hA : Below wr.heap.size wr wA := hHeld.2.2.trans (hbA.mono hHeld.2.2.size); have HBA := Lib.hid hbA; clear hbA)
            clear hat
            refine hK9.out _ _ ⟨(hA.cell (cell_lt HC.out.1)).trans HC.out.1, (hA.cell (cell_lt HC.out.2)).trans HC.out.2, hA⟩ (fun hHeld => ?_)
            clear hK9 K9 hA
            (try simp only [Act.put, List.getElem_toArray, List.getElem_cons_succ, List.getElem_cons_zero, List.setIfInBounds_toArray, List.set_cons_zero, List.set_cons_succ])
            refine wpAnyH_ready (rs := [13, 17]) (by kernel_rfl) (by simp) ?_
            refine AllReadyH.cons rfl (fun K9 hK9 => ?_) (AllReadyH.cons rfl (fun K9 hK9 => ?_) AllReadyH.nil)
            · skip
              have hrd := (HRR.out.below hHeld.2.2).read (j + 1) HX.out
              rw [← HQ.out.1] at hrd
              go_simp
              go_wp2_with (go_at_call 17; (with_reducible refine hrd.mono ?_); rintro e wB ⟨rfl, hbB⟩; have hB : Below wr.heap.size wr wB := hHeld.2.2.trans (hbB.mono hHeld.2.2.size); have HBB := Lib.hid hbB; clear hbB)
              clear hrd
              refine hK9.out _ _ ⟨(hB.cell (cell_lt HC.out.1)).trans HC.out.1, (hB.cell (cell_lt HC.out.2)).trans HC.out.2, hB⟩ (fun hHeld => ?_)
              clear hK9 K9 hB
              (try simp only [Act.put, List.getElem_toArray, List.getElem_cons_succ, List.getElem_cons_zero, List.setIfInBounds_toArray, List.set_cons_zero, List.set_cons_succ])
              refine wpAnyH_take (i := 14) (v := ?_) rfl (by kernel_rfl) (by kernel_rfl) (by kernel_rfl) (fun _ _ _ h => h) (Or.inl ⟨by rfl, ?_⟩) (by with_reducible assumption) ?_
              rotate_left
              · intro w hSw; (try dsimp only at hSw); (try go_split_ands); go_simp; (try with_reducible rfl)
              (try simp only [Act.put, List.getElem_toArray, List.getElem_cons_succ, List.getElem_cons_zero, List.setIfInBounds_toArray, List.set_cons_zero, List.set_cons_succ])
              refine wpAnyH_take (i := 15) (v := ?_) rfl (by kernel_rfl) (by kernel_rfl) (by kernel_rfl) (fun _ _ _ h => h) (Or.inl ⟨by rfl, ?_⟩) (by with_reducible assumption) ?_
              rotate_left
              · intro w hSw; (try dsimp only at hSw); (try go_split_ands); go_simp; (try with_reducible rfl)
              (try simp only [Act.put, List.getElem_toArray, List.getElem_cons_succ, List.getElem_cons_zero, List.setIfInBounds_toArray, List.set_cons_zero, List.set_cons_succ])
              refine wpAnyH_take (i := 16) (v := ?_) rfl (by kernel_rfl) (by kernel_rfl) (by kernel_rfl) (fun _ _ _ h => h) (Or.inl ⟨by rfl, ?_⟩) (by with_reducible assumption) ?_
              rotate_left
              · intro w hSw; (try dsimp only at hSw); (try go_split_ands); go_simp; (try with_reducible rfl)
              (try simp only [Act.put, List.getElem_toArray, List.getElem_cons_succ, List.getElem_cons_zero, List.setIfInBounds_toArray, List.set_cons_zero, List.set_cons_succ])
              refine wpAnyH_ready (rs := [17]) (by kernel_rfl) (by simp) ?_
              refine AllReadyH.cons rfl (fun K9 hK9 => ?_) AllReadyH.nil
              rw [if_pos (by rfl)]
              simp only [List.getElem_toArray, List.getElem_cons_succ, List.getElem_cons_zero]
              refine wp_alloc_info 48 (by rfl) (.agg (nv .u8 zeroPg)) (nv .u8 zeroPg) (by kernel_rfl) rfl ?_
              have hN : IsBlk (World.alloc wB (.cells (nv .u8 zeroPg) 48)) (World.heap wB).size (nv .u8 zeroPg) 48 := IsBlk.new _ _ _
              have hbN : Below (World.heap wB).size wB (World.alloc wB (.cells (nv .u8 zeroPg) 48)) := (Below.refl _ _).alloc (Nat.le_refl _) _
              have hsN : wr.heap.size ≤ (World.heap wB).size := hHeld.2.2.size
              have hbN1 := hHeld.2.2.trans (hbN.mono hsN)
              generalize World.alloc wB (.cells (nv .u8 zeroPg) 48) = wN at hN hbN hbN1 ⊢
              refine hK9.out _ _ ⟨(hbN1.cell (cell_lt HC.out.1)).trans HC.out.1, (hbN1.cell (cell_lt HC.out.2)).trans HC.out.2, hbN1⟩ (fun hHeld => ?_)
              have HN := Lib.hid (And.intro hN hsN)
              clear hK9 K9 hN hbN hsN hbN1
              generalize (World.heap wB).size = qb at HN ⊢
              (try simp only [Act.put, List.getElem_toArray, List.getElem_cons_succ, List.getElem_cons_zero, List.setIfInBounds_toArray, List.set_cons_zero, List.set_cons_succ])
              refine wpAnyH_ready (rs := [18]) (by kernel_rfl) (by simp) ?_
              refine AllReadyH.cons rfl (fun K9 hK9 => ?_) AllReadyH.nil
              rw [if_pos (by rfl)]
              simp only [List.getElem_toArray, List.getElem_cons_succ, List.getElem_cons_zero]
              have hlay := pg_laid HN.out.1 HQ.out.2.1
              refine wp_store_mid 48 (.tmp 13) (.tmp 111) (by rfl) qb 0 (nv .u8 q) (by rfl) (by rfl) (by rw [nv_size, HQ.out.2.1]; exact hlay.2.2) (info_pg _ HQ.out.2.1) (nv_one _ _) ?_
              have hbL := hHeld.2.2.trans (hlay.2.1.below hHeld.2.2.size (fun k hk => by rw [hk]; exact HN.out.2))
              refine hK9.out _ _ ⟨(hbL.cell (cell_lt HC.out.1)).trans HC.out.1, (hbL.cell (cell_lt HC.out.2)).trans HC.out.2, hbL⟩ (fun hHeld => ?_)
              clear hK9 K9
              (try simp only [Act.put, List.getElem_toArray, List.getElem_cons_succ, List.getElem_cons_zero, List.setIfInBounds_toArray, List.set_cons_zero, List.set_cons_succ])
              refine wpAnyH_take (i := 19) (v := ?_) rfl (by kernel_rfl) (by kernel_rfl) (by kernel_rfl) (fun _ _ _ h => h) (Or.inl ⟨by rfl, ?_⟩) (by with_reducible assumption) ?_
              rotate_left
              · intro w hSw; (try dsimp only at hSw); (try go_split_ands); go_simp; (try with_reducible rfl)
              (try simp only [Act.put, List.getElem_toArray, List.getElem_cons_succ, List.getElem_cons_zero, List.setIfInBounds_toArray, List.set_cons_zero, List.set_cons_succ])
              refine wpAnyH_done (by kernel_rfl) ?_ _
              have HL := Lib.hid (And.intro hlay.1 hbL)
              clear hlay hbL hHeld
              go_wp2_with fail
              go_meet
              exact ⟨qb, rfl, rfl, HL.out.1, HL.out.2, HN.out.2⟩
            · skip
              rw [if_pos (by rfl)]
              simp only [List.getElem_toArray, List.getElem_cons_succ, List.getElem_cons_zero]
              refine wp_alloc_info 48 (by rfl) (.agg (nv .u8 zeroPg)) (nv .u8 zeroPg) (by kernel_rfl) rfl ?_
              have hN : IsBlk (World.alloc wA (.cells (nv .u8 zeroPg) 48)) (World.heap wA).size (nv .u8 zeroPg) 48 := IsBlk.new _ _ _
              have hbN : Below (World.heap wA).size wA (World.alloc wA (.cells (nv .u8 zeroPg) 48)) := (Below.refl _ _).alloc (Nat.le_refl _) _
              have hsN : wr.heap.size ≤ (World.heap wA).size := hHeld.2.2.size
              have hbN1 := hHeld.2.2.trans (hbN.mono hsN)
              generalize World.alloc wA (.cells (nv .u8 zeroPg) 48) = wN at hN hbN hbN1 ⊢
              refine hK9.out _ _ ⟨(hbN1.cell (cell_lt HC.out.1)).trans HC.out.1, (hbN1.cell (cell_lt HC.out.2)).trans HC.out.2, hbN1⟩ (fun hHeld => ?_)
              have HN := Lib.hid (And.intro hN hsN)
              clear hK9 K9 hN hbN hsN hbN1
              generalize (World.heap wA).size = qb at HN ⊢
              (try simp only [Act.put, List.getElem_toArray, List.getElem_cons_succ, List.getElem_cons_zero, List.setIfInBounds_toArray, List.set_cons_zero, List.set_cons_succ])
              refine wpAnyH_ready (rs := [13]) (by kernel_rfl) (by simp) ?_
              refine AllReadyH.cons rfl (fun K9 hK9 => ?_) AllReadyH.nil
              have hrd := (HRR.out.below hHeld.2.2).read (j + 1) HX.out
              rw [← HQ.out.1] at hrd
              go_simp
              go_wp2_with (go_at_call 17; (with_reducible refine hrd.mono ?_); rintro e wB ⟨rfl, hbB⟩; have hB : Below wr.heap.size wr wB := hHeld.2.2.trans (hbB.mono hHeld.2.2.size); have HBB := Lib.hid hbB; clear hbB)
              clear hrd
              refine hK9.out _ _ ⟨(hB.cell (cell_lt HC.out.1)).trans HC.out.1, (hB.cell (cell_lt HC.out.2)).trans HC.out.2, hB⟩ (fun hHeld => ?_)
              clear hK9 K9 hB
              (try simp only [Act.put, List.getElem_toArray, List.getElem_cons_succ, List.getElem_cons_zero, List.setIfInBounds_toArray, List.set_cons_zero, List.set_cons_succ])
              refine wpAnyH_take (i := 14) (v := ?_) rfl (by kernel_rfl) (by kernel_rfl) (by kernel_rfl) (fun _ _ _ h => h) (Or.inl ⟨by rfl, ?_⟩) (by with_reducible assumption) ?_
              rotate_left
              · intro w hSw; (try dsimp only at hSw); (try go_split_ands); go_simp; (try with_reducible rfl)
              (try simp only [Act.put, List.getElem_toArray, List.getElem_cons_succ, List.getElem_cons_zero, List.setIfInBounds_toArray, List.set_cons_zero, List.set_cons_succ])
              refine wpAnyH_take (i := 15) (v := ?_) rfl (by kernel_rfl) (by kernel_rfl) (by kernel_rfl) (fun _ _ _ h => h) (Or.inl ⟨by rfl, ?_⟩) (by with_reducible assumption) ?_
              rotate_left
              · intro w hSw; (try dsimp only at hSw); (try go_split_ands); go_simp; (try with_reducible rfl)
              (try simp only [Act.put, List.getElem_toArray, List.getElem_cons_succ, List.getElem_cons_zero, List.setIfInBounds_toArray, List.set_cons_zero, List.set_cons_succ])
              refine wpAnyH_take (i := 16) (v := ?_) rfl (by kernel_rfl) (by kernel_rfl) (by kernel_rfl) (fun _ _ _ h => h) (Or.inl ⟨by rfl, ?_⟩) (by with_reducible assumption) ?_
              rotate_left
              · intro w hSw; (try dsimp only at hSw); (try go_split_ands); go_simp; (try with_reducible rfl)
              (try simp only [Act.put, List.getElem_toArray, List.getElem_cons_succ, List.getElem_cons_zero, List.setIfInBounds_toArray, List.set_cons_zero, List.set_cons_succ])
              refine wpAnyH_ready (rs := [18]) (by kernel_rfl) (by simp) ?_
              refine AllReadyH.cons rfl (fun K9 hK9 => ?_) AllReadyH.nil
              rw [if_pos (by rfl)]
              simp only [List.getElem_toArray, List.getElem_cons_succ, List.getElem_cons_zero]
              have hlay := pg_laid (HN.out.1.below HBB.out HN.out.1.lt) HQ.out.2.1
              refine wp_store_mid 48 (.tmp 13) (.tmp 111) (by rfl) qb 0 (nv .u8 q) (by rfl) (by rfl) (by rw [nv_size, HQ.out.2.1]; exact hlay.2.2) (info_pg _ HQ.out.2.1) (nv_one _ _) ?_
              have hbL := hHeld.2.2.trans (hlay.2.1.below hHeld.2.2.size (fun k hk => by rw [hk]; exact HN.out.2))
              refine hK9.out _ _ ⟨(hbL.cell (cell_lt HC.out.1)).trans HC.out.1, (hbL.cell (cell_lt HC.out.2)).trans HC.out.2, hbL⟩ (fun hHeld => ?_)
              clear hK9 K9
              (try simp only [Act.put, List.getElem_toArray, List.getElem_cons_succ, List.getElem_cons_zero, List.setIfInBounds_toArray, List.set_cons_zero, List.set_cons_succ])
              refine wpAnyH_take (i := 19) (v := ?_) rfl (by kernel_rfl) (by kernel_rfl) (by kernel_rfl) (fun _ _ _ h => h) (Or.inl ⟨by rfl, ?_⟩) (by with_reducible assumption) ?_
              rotate_left
              · intro w hSw; (try dsimp only at hSw); (try go_split_ands); go_simp; (try with_reducible rfl)
              (try simp only [Act.put, List.getElem_toArray, List.getElem_cons_succ, List.getElem_cons_zero, List.setIfInBounds_toArray, List.set_cons_zero, List.set_cons_succ])
              refine wpAnyH_done (by kernel_rfl) ?_ _
              have HL := Lib.hid (And.intro hlay.1 hbL)
              clear hlay hbL hHeld
              go_wp2_with fail
              go_meet
              exact ⟨qb, rfl, rfl, HL.out.1, HL.out.2, HN.out.2⟩
          · skip
            rw [if_pos (by rfl)]
            simp only [List.getElem_toArray, List.getElem_cons_succ, List.getElem_cons_zero]
            refine wp_alloc_info 48 (by rfl) (.agg (nv .u8 zeroPg)) (nv .u8 zeroPg) (by kernel_rfl) rfl ?_
            have hN : IsBlk (World.alloc wr.drew (.cells (nv .u8 zeroPg) 48)) (World.heap wr.drew).size (nv .u8 zeroPg) 48 := IsBlk.new _ _ _
            have hbN : Below (World.heap wr.drew).size wr.drew (World.alloc wr.drew (.cells (nv .u8 zeroPg) 48)) := (Below.refl _ _).alloc (Nat.le_refl _) _
            have hsN : wr.heap.size ≤ (World.heap wr.drew).size := hHeld.2.2.size
            have hbN1 := hHeld.2.2.trans (hbN.mono hsN)
            generalize World.alloc wr.drew (.cells (nv .u8 zeroPg) 48) = wN at hN hbN hbN1 ⊢
            refine hK9.out _ _ ⟨(hbN1.cell (cell_lt HC.out.1)).trans HC.out.1, (hbN1.cell (cell_lt HC.out.2)).trans HC.out.2, hbN1⟩ (fun hHeld => ?_)
            have HN := Lib.hid (And.intro hN hsN)
            clear hK9 K9 hN hbN hsN hbN1
            generalize (World.heap wr.drew).size = qb at HN ⊢
            (try simp only [Act.put, List.getElem_toArray, List.getElem_cons_succ, List.getElem_cons_zero, List.setIfInBounds_toArray, List.set_cons_zero, List.set_cons_succ])
            refine wpAnyH_ready (rs := [12]) (by kernel_rfl) (by simp) ?_
            refine AllReadyH.cons rfl (fun K9 hK9 => ?_) AllReadyH.nil
            have hat := (HRR.out.below hHeld.2.2).at_ (j + 1)
            rw [← HX.out, show ((s.place + (j + 1) : Nat) : Int) = (s.place : Int) + ((j : Int) + 1) by omega] at hat
            go_simp
            go_wp2_with (go_at_call 48; (with_reducible refine hat.mono ?_); rintro e wA ⟨rfl, hbA⟩; have hA : Below wr.heap.size wr wA := hHeld.2.2.trans (hbA.mono hHeld.2.2.size); have HBA := Lib.hid hbA; clear hbA)
            clear hat
            refine hK9.out _ _ ⟨(hA.cell (cell_lt HC.out.1)).trans HC.out.1, (hA.cell (cell_lt HC.out.2)).trans HC.out.2, hA⟩ (fun hHeld => ?_)
            clear hK9 K9 hA
            (try simp only [Act.put, List.getElem_toArray, List.getElem_cons_succ, List.getElem_cons_zero, List.setIfInBounds_toArray, List.set_cons_zero, List.set_cons_succ])
            refine wpAnyH_ready (rs := [13]) (by kernel_rfl) (by simp) ?_
            refine AllReadyH.cons rfl (fun K9 hK9 => ?_) AllReadyH.nil
            have hrd := (HRR.out.below hHeld.2.2).read (j + 1) HX.out
            rw [← HQ.out.1] at hrd
            go_simp
            go_wp2_with (go_at_call 17; (with_reducible refine hrd.mono ?_); rintro e wB ⟨rfl, hbB⟩; have hB : Below wr.heap.size wr wB := hHeld.2.2.trans (hbB.mono hHeld.2.2.size); have HBB := Lib.hid hbB; clear hbB)
            clear hrd
            refine hK9.out _ _ ⟨(hB.cell (cell_lt HC.out.1)).trans HC.out.1, (hB.cell (cell_lt HC.out.2)).trans HC.out.2, hB⟩ (fun hHeld => ?_)
            clear hK9 K9 hB
            (try simp only [Act.put, List.getElem_toArray, List.getElem_cons_succ, List.getElem_cons_zero, List.setIfInBounds_toArray, List.set_cons_zero, List.set_cons_succ])
            refine wpAnyH_take (i := 14) (v := ?_) rfl (by kernel_rfl) (by kernel_rfl) (by kernel_rfl) (fun _ _ _ h => h) (Or.inl ⟨by rfl, ?_⟩) (by with_reducible assumption) ?_
            rotate_left
            · intro w hSw; (try dsimp only at hSw); (try go_split_ands); go_simp; (try with_reducible rfl)
            (try simp only [Act.put, List.getElem_toArray, List.getElem_cons_succ, List.getElem_cons_zero, List.setIfInBounds_toArray, List.set_cons_zero, List.set_cons_succ])
            refine wpAnyH_take (i := 15) (v := ?_) rfl (by kernel_rfl) (by kernel_rfl) (by kernel_rfl) (fun _ _ _ h => h) (Or.inl ⟨by rfl, ?_⟩) (by with_reducible assumption) ?_
            rotate_left
            · intro w hSw; (try dsimp only at hSw); (try go_split_ands); go_simp; (try with_reducible rfl)
            (try simp only [Act.put, List.getElem_toArray, List.getElem_cons_succ, List.getElem_cons_zero, List.setIfInBounds_toArray, List.set_cons_zero, List.set_cons_succ])
            refine wpAnyH_take (i := 16) (v := ?_) rfl (by kernel_rfl) (by kernel_rfl) (by kernel_rfl) (fun _ _ _ h => h) (Or.inl ⟨by rfl, ?_⟩) (by with_reducible assumption) ?_
            rotate_left
            · intro w hSw; (try dsimp only at hSw); (try go_split_ands); go_simp; (try with_reducible rfl)
            (try simp only [Act.put, List.getElem_toArray, List.getElem_cons_succ, List.getElem_cons_zero, List.setIfInBounds_toArray, List.set_cons_zero, List.set_cons_succ])
            refine wpAnyH_ready (rs := [18]) (by kernel_rfl) (by simp) ?_
            refine AllReadyH.cons rfl (fun K9 hK9 => ?_) AllReadyH.nil
            rw [if_pos (by rfl)]
            simp only [List.getElem_toArray, List.getElem_cons_succ, List.getElem_cons_zero]
            have hlay := pg_laid ((HN.out.1.below HBA.out HN.out.1.lt).below HBB.out (HN.out.1.below HBA.out HN.out.1.lt).lt) HQ.out.2.1
            refine wp_store_mid 48 (.tmp 13) (.tmp 111) (by rfl) qb 0 (nv .u8 q) (by rfl) (by rfl) (by rw [nv_size, HQ.out.2.1]; exact hlay.2.2) (info_pg _ HQ.out.2.1) (nv_one _ _) ?_
            have hbL := hHeld.2.2.trans (hlay.2.1.below hHeld.2.2.size (fun k hk => by rw [hk]; exact HN.out.2))
            refine hK9.out _ _ ⟨(hbL.cell (cell_lt HC.out.1)).trans HC.out.1, (hbL.cell (cell_lt HC.out.2)).trans HC.out.2, hbL⟩ (fun hHeld => ?_)
            clear hK9 K9
            (try simp only [Act.put, List.getElem_toArray, List.getElem_cons_succ, List.getElem_cons_zero, List.setIfInBounds_toArray, List.set_cons_zero, List.set_cons_succ])
            refine wpAnyH_take (i := 19) (v := ?_) rfl (by kernel_rfl) (by kernel_rfl) (by kernel_rfl) (fun _ _ _ h => h) (Or.inl ⟨by rfl, ?_⟩) (by with_reducible assumption) ?_
            rotate_left
            · intro w hSw; (try dsimp only at hSw); (try go_split_ands); go_simp; (try with_reducible rfl)
            (try simp only [Act.put, List.getElem_toArray, List.getElem_cons_succ, List.getElem_cons_zero, List.setIfInBounds_toArray, List.set_cons_zero, List.set_cons_succ])
            refine wpAnyH_done (by kernel_rfl) ?_ _
            have HL := Lib.hid (And.intro hlay.1 hbL)
            clear hlay hbL hHeld
            go_wp2_with fail
            go_meet
            exact ⟨qb, rfl, rfl, HL.out.1, HL.out.2, HN.out.2⟩
          -- >
        case rest =>
          -- <
          obtain ⟨qb, rfl, rfl, HA2⟩ := hcut
          obtain ⟨w8, hw8⟩ : ∃ w : World, w = wc := ⟨_, rfl⟩
          subst hw8
          have hR8 := HR.out.below HA2.out.2.1
          have hbl8 : IsBytes w8 (some ⟨qb, 0, none⟩) q := isBytes_blk (m := q) HA2.out.1 0 HQ.out.2.2 (fun i hi => by rw [Nat.zero_add])
          have hhq : hb < qb := Nat.lt_of_lt_of_le HR.out.sum.blk.lt HA2.out.2.2
          have hnS : ¬ HashS hb v qb := by
            rintro (e | e)
            · omega
            · have := HR.out.sum.own.lt _ e; have := HA2.out.2.2; omega
          have hlq : lb < qb := Nat.lt_of_lt_of_le HR.out.lt HA2.out.2.2
          have hwr := writeS (k := 64) (c := 64) hR8.sum HQ.out.2.1.symm hbl8 (by intro e; cases e) (by decide) hR8.hbw (by intro x hx _; cases hx; exact Nat.ne_of_gt hhq)
          have H8 := Lib.hid (And.intro hR8 (And.intro hnS hlq))
          clear hR8 hbl8 hhq hnS hlq
          go_upto_region 19 with (go_at_call 46; (with_reducible refine hwr.mono ?_); rintro e w9 ⟨rfl, v9, hi9, hb9, ho9⟩; have H9 := Lib.hid (And.intro (H8.out.1.wrote hi9 hb9 ho9) (hb9.blk HA2.out.1 H8.out.2.1)); clear hi9 hb9 ho9)
          have h9 := H9.out
          rw [HQ.out.1, ← recT_succ, ← HQ.out.1] at h9
          have HW9 := Lib.hid h9
          clear h9 H9 hwr
          go_upto_block 2 with fail
          go_cut [120] (fun _ wx => Hid (RecR w3 wx hb lb v9 k (recT s d p (j + 1)) (recL s d k (16 * (j + 1)) (j - (k + 15) / 16)) ∧ IsBlk wx qb (nv .u8 q) 48))
          case first =>
            go_wp2_with fail
            go_loopw [120] (fun i wr2 => ∃ jj : Nat, jj ≤ 16 ∧ i = .int .i64 jj ∧ Hid (RecR w3 wr2 hb lb v9 k (recT s d p (j + 1)) (recL s d k (16 * j + jj) (j - (k + 15) / 16)) ∧ IsBlk wr2 qb (nv .u8 q) 48)) (fun i _ => 16 - (intOf i).toNat)
            case atStart => exact ⟨0, by omega, rfl, HW9.out⟩
            case round =>
              obtain ⟨jj, hjj, rfl, HL⟩ := hrel
              have e15 := tdiv16 k
              have hQ0 : (((k + 15) / 16 : Nat) : Int) ≤ 10 := by omega
              by_cases hlt : jj < 16
              · have j1 : (jj : Int) < 16 := by omega
                by_cases hck : 16 * j + jj < k
                · have hQ : (j : Int) + 1 ≤ (((k + 15) / 16 : Nat) : Int) := by omega
                  have j2 : 16 * (j : Int) + (jj : Int) < (k : Int) := by omega
                  have hget := get_any wr q HQ.out.2.1 HQ.out.2.2 (4 * jj) 4 (by omega) (by decide)
                  have hXlt := leN_lt ((q.drop (4 * jj)).take 4) (fun c hc => HQ.out.2.2 c (List.mem_of_mem_drop (List.mem_of_mem_take hc)))
                  have hXl : ((q.drop (4 * jj)).take 4).length = 4 := by rw [List.length_take, List.length_drop, HQ.out.2.1]; omega
                  rw [hXl] at hXlt
                  have hch := chAt_fst s d k j jj hlt
                  rw [← HQ.out.1] at hch
                  rw [show ((4 * jj : Nat) : Int) = 4 * (jj : Int) by omega, show ((4 : Nat) : Int) = 4 from rfl] at hget
                  unfold pgV at hget
                  generalize leN ((q.drop (4 * jj)).take 4) = X at hget hXlt hch
                  have hX4 : X < 4294967296 := hXlt
                  have hX2 : (X : Int) < 4294967296 := by omega
                  have HX := Lib.hid hch
                  have HY := Lib.hid (recL_get s d k (16 * j + jj) (j - (k + 15) / 16) (16 * j + jj) hck)
                  clear hch hXlt hXl hX4
                  generalize ((k + 15) / 16) = Q at *
                  go_wp2_with (first
                    | (refine wpList_load_row (by rfl) 48 (.tmp 13) (by rfl) qb (by rfl) 48 (nv .u8 q) (0, 0) _ HL.out.2 Tryd.underlying48 rfl (info_pg _ HQ.out.2.1) ?_)
                    | (go_at_call 50; (with_reducible refine hget.mono ?_); rintro e w10 ⟨rfl, hb10⟩; have H10 := Lib.hid (And.intro (HL.out.1.below hb10) (HL.out.2.below hb10 HL.out.2.lt)); clear hb10; have ht10 := H10.out.1.there HY.out; have cz := range_chAt ht10.1; have fz := (ht10.2 0 (by decide)).2; clear ht10; rw [Nat.add_zero] at fz))
                  have hset := H10.out.1.setAt HY.out (X : Int)
                  rw [← HX.out] at hset
                  rw [recL_at _ _ _ _ _ hck, HX.out] at hset
                  have hne : qb ≠ lb := Nat.ne_of_gt H8.out.2.2
                  have HS := Lib.hid (And.intro hset (H10.out.2.setOther ⟨lb, (16 * j + jj) * 65, none⟩ (.int .i64 (X : Int)) hne))
                  clear hset hne cz fz
                  go_round
                  case rel => exact ⟨jj + 1, by omega, by go_num, HS.out⟩
                  case measure => simp [intOf]; omega
                · have j2 : ¬ 16 * (j : Int) + (jj : Int) < (k : Int) := by omega
                  have hov := HL.out
                  rw [recL_over s d k (16 * j + jj) (16 * j + (jj + 1)) _ (by omega) (by omega)] at hov
                  have HS := Lib.hid hov
                  clear hov
                  generalize ((k + 15) / 16) = Q at *
                  by_cases hQ : (j : Int) + 1 ≤ (Q : Int)
                  · go_wp2_with fail
                    go_round
                    case rel => exact ⟨jj + 1, by omega, by go_num, HS.out⟩
                    case measure => simp [intOf]; omega
                  · go_wp2_with fail
                    go_round
                    case rel => exact ⟨jj + 1, by omega, by go_num, HS.out⟩
                    case measure => simp [intOf]; omega
              · obtain rfl : jj = 16 := by omega
                have hfin := HL.out
                rw [show 16 * j + 16 = 16 * (j + 1) by omega] at hfin
                have HF := Lib.hid hfin
                clear hfin
                go_wp2_with fail
                go_meet
                exact HF.out
          case rest =>
            have HF := hcut
            obtain ⟨wf, hwf⟩ : ∃ w : World, w = wc := ⟨_, rfl⟩
            subst hwf
            have e15 := tdiv16 k
            have hQ0 : (((k + 15) / 16 : Nat) : Int) ≤ 10 := by omega
            have hTe := HT.out
            unfold takes at hTe
            by_cases hQ : (k + 15) / 16 ≤ j
            · obtain ⟨c, rfl⟩ : ∃ c, j = (k + 15) / 16 + c := ⟨j - (k + 15) / 16, by omega⟩
              have hck : c < k := by omega
              have hch := chAt_snd s d k c
              rw [← HQ.out.1] at hch
              have HXW := Lib.hid hch
              have hcc : (k + 15) / 16 + c - (k + 15) / 16 = c := by omega
              have hcc2 : (k + 15) / 16 + c + 1 - (k + 15) / 16 = c + 1 := by omega
              have HY := Lib.hid (recL_get s d k (16 * ((k + 15) / 16 + c + 1)) c c hck)
              have hf := HF.out
              rw [hcc] at hf
              have hth := hf.1.there HY.out
              have hst := hf.1.setWhat HY.out q HQ.out.2.1
              have hwt := recL_what s d k (16 * ((k + 15) / 16 + c + 1)) c hck
              rw [HXW.out] at hwt
              rw [hwt] at hst
              have HS := Lib.hid (And.intro hst (And.intro (there_part hth.2 (i := 1) (m := 64) (by decide)) hf.2))
              have hcT : Hid ((k + 15) / 16 + c + 1 + 1 ≤ T ∧ (k + 15) / 16 + c + 1 - (k + 15) / 16 = c + 1) := Lib.hid ⟨by omega, hcc2⟩
              clear hch hcc hcc2 hf hth hst hTe hwt
              generalize hQe : (k + 15) / 16 = Q at *
              have HQe := Lib.hid hQe
              clear hQe
              go_wp2_with (first
                | (refine wpList_load_row (by rfl) 48 (.tmp 13) (by rfl) qb (by rfl) 48 (nv .u8 q) (0, 0) _ HS.out.2.2 Tryd.underlying48 rfl (info_pg _ HQ.out.2.1) ?_)
                | (refine wpList_store_mid (by rfl) 48 (.tmp 160) (.tmp 158) (by rfl) lb (c * 65 + 1) (nv .u8 q) (by rfl) (by rfl) (by rw [nv_size, HQ.out.2.1]; exact HS.out.2.1) (info_pg _ HQ.out.2.1) (nv_one _ _) ?_))
              go_round
              case rel => exact ⟨Q + c + 1, v9, hcT.out.1, by go_num, by rw [HQe.out, hcT.out.2]; exact HS.out.1⟩
              case measure => have := HQe.out; simp [intOf]; omega
            · have hlt : j < (k + 15) / 16 := by omega
              have hf := HF.out
              rw [show j - (k + 15) / 16 = j + 1 - (k + 15) / 16 by omega] at hf
              have HS := Lib.hid hf
              clear hf hTe
              generalize hQe : (k + 15) / 16 = Q at *
              have HQe := Lib.hid hQe
              clear hQe
              have hltI : (j : Int) < (Q : Int) := by omega
              go_wp2_with fail
              go_round
              case rel => exact ⟨j + 1, v9, by omega, by go_num, by rw [HQe.out]; exact HS.out.1⟩
              case measure => simp [intOf]; omega
          -- >
      · obtain rfl : T = j + 1 := by omega
        have hfin := HR.out
        have hTe := HT.out
        unfold takes at hTe
        rw [recL_over s d k (16 * j) k _ (by omega) (Nat.le_refl _), show j - (k + 15) / 16 = k by omega] at hfin
        have HF := Lib.hid hfin
        clear hfin hTe
        go_wp2_with fail
        go_meet
        exact ⟨v, HF.out⟩
  case rest =>
    obtain ⟨v, HF⟩ := hcut
    rename_i K1 hK1
    refine hK1 _ _ ?_
    exact rec_end (w2 := w3) HH H1 HRC HP hT2 HT HB H03 HLK hk1 hk60 hTr HHB HF
end Go.Proofs.YtkabkehfckbhcaaDoor
