-- slots 103
/-
  pdu: PduStops, walked.
-/
import Derived.Test.YtaehaclmagnncaaPduPs
import Derived.Test.YtaehaclmagnncaaPduNone
import Derived.Test.YtaehaclmagnncaaTail
import Derived.Deep.RegionHeld3
namespace Go.Proofs.Ytaehaclmagnncaa
set_option linter.unusedVariables false
set_option linter.unusedSimpArgs false
open Go.RowKit
attribute [local go_sem ↓] Go.wp_at_zero Go.wp_at_succ

theorem or128 (x : Nat) (h : x < 256) : Go.bits .or .u8 (x : Int) 128 = ((x % 128 + 128 : Nat) : Int) := by
  have : ∀ x : Fin 256, Go.bits .or .u8 (x.1 : Int) 128 = ((x.1 % 128 + 128 : Nat) : Int) := by decide +kernel
  exact this ⟨x, h⟩
theorem brk_eqx (x : Nat) : strB [x] ++ strB z47 = strB (brk x) := by
  unfold brk
  rw [show (x :: z47) = [x] ++ z47 from rfl, strB_append]
theorem strB_byB (s : ByteArray) : strB (byB s) = s := by
  apply ByteArray.ext
  apply Array.ext'
  unfold strB byB
  rw [strOfNums_data, List.map_map, List.map_map]
  conv => rhs; rw [← List.map_id s.data.toList]
  apply List.map_congr_left
  intro c _
  simp
theorem strB_app_s (l : List Nat) (s : ByteArray) : strB l ++ s = strB (l ++ byB s) := by rw [strB_append, strB_byB]
theorem brk_len (x : Nat) : (brk x).length = 48 := by unfold brk; rw [List.length_cons, z47_len]
/-- All of them may be. -/
def mayTo (ps : List PE) (k : Nat) : Prop := ∀ i, i < k → (ps.getD i {}).p.may = true

/-- What holds behind the first loop. -/
structure StP (w W2 : World) (rb n : Nat) (a : Option Addr) (ps : List PE) : Prop where
  len : ps.length = n
  pds : PdsIn W2 a ps
  bel : Below w.heap.size w W2
  hrb : rb = W2.heap.size
theorem StP.in_ {w W2 W : World} {rb n : Nat} {a : Option Addr} {ps : List PE} (h : StP w W2 rb n a ps) (hb : Below rb W2 W) {e : PE} {k : Nat} (hk : k < n) (he : e = ps.getD k {}) : PE.In W e := by
  have h1 := h.hrb
  subst h1
  rw [he]
  exact (h.pds.below hb).el k (by rw [h.len]; exact hk)
theorem StP.end_ {w W2 wr W : World} {rb n : Nat} {a : Option Addr} {ps : List PE} (h : StP w W2 rb n a ps) (hb : Below rb W2 wr) (hbw : Below wr.heap.size wr W) : Below w.heap.size w W := by
  have h1 := h.hrb
  subst h1
  have h2 : Below w.heap.size w wr := h.bel.trans (hb.mono h.bel.size)
  exact h2.trans (hbw.mono h2.size)

set_option maxRecDepth 100000 in
set_option maxHeartbeats 2000000 in
theorem stops_21 {w W2 wr : World} {rb n : Nat} {a : Option Addr} {ps : List PE} {v : Value} {tp : Option Addr} {x : Nat} {s : ByteArray} (hP : StP w W2 rb n a ps) (hrd : IsRd wr rb rb v tp (brk x ++ byB s) false) (hb : Below rb W2 wr) (hsz : s.size ≤ 2000) (hx : 128 ≤ x) {u0 u1 u3 u4 u5 u6 u8 u9 u10 u11 u12 u13 u14 u15 u16 u17 u18 u19 u20 u21 u22 u23 u24 u25 u26 u27 u28 u29 u30 u31 u32 u33 u34 u35 u36 u37 u38 u39 u40 u41 u42 u43 u44 u45 u46 u47 u48 u49 u50 u51 u52 u53 u54 u55 u56 u57 u58 u59 u60 u61 u62 u63 u64 u65 u66 u67 u68 u69 u70 u71 u72 u73 u74 u75 u76 u77 u78 u79 u80 u81 u82 u83 u84 u85 u86 u87 u88 u89 u90 u91 u92 u93 u94 u95 u96 u97 u98 u99 u100 u101 u102 : Value} :
    Code.wp Try.prog (restOf Try.f8 21) (bodyPost Try.prog Try.f8 (fun e w' => e = .returned (.bool true) ∧ Below w.heap.size w w')) ⟨(u0 :: u1 :: .string s :: u3 :: u4 :: u5 :: u6 :: .pointer (some ⟨rb, 0, none⟩) :: u8 :: u9 :: u10 :: u11 :: u12 :: u13 :: u14 :: u15 :: u16 :: u17 :: u18 :: u19 :: u20 :: u21 :: u22 :: u23 :: u24 :: u25 :: u26 :: u27 :: u28 :: u29 :: u30 :: u31 :: u32 :: u33 :: u34 :: u35 :: u36 :: u37 :: u38 :: u39 :: u40 :: u41 :: u42 :: u43 :: u44 :: u45 :: u46 :: u47 :: u48 :: u49 :: u50 :: u51 :: u52 :: u53 :: u54 :: u55 :: u56 :: u57 :: u58 :: u59 :: u60 :: u61 :: u62 :: u63 :: u64 :: u65 :: u66 :: u67 :: u68 :: u69 :: u70 :: u71 :: u72 :: u73 :: u74 :: u75 :: u76 :: u77 :: u78 :: u79 :: u80 :: u81 :: u82 :: u83 :: u84 :: u85 :: u86 :: u87 :: u88 :: u89 :: u90 :: u91 :: u92 :: u93 :: u94 :: u95 :: u96 :: u97 :: u98 :: u99 :: u100 :: u101 :: u102 :: []).toArray, []⟩ wr := by
  have HH := Lib.hid (And.intro hP (And.intro hrd (And.intro hb (And.intro hsz hx))))
  clear hP hrd hb hx
  conv => arg 2; whnf
  refine wp_seq_k (fun K hK => ?_)
  have HK := Lib.hid hK
  clear hK
  go_wp2_with fail
  go_loopw [79] (fun i wx => ∃ (k : Nat) (v : Value) (tp : Option Addr) (l : List Nat) (br : Bool), k ≤ 3 ∧ i = .int .i64 k ∧ IsRd wx rb rb v tp l br ∧ Below rb W2 wx ∧ (br = true → l = []) ∧ (br = false → l = brk x ++ byB s)) (fun i _ => 3 - (intOf i).toNat)
  case atStart => exact ⟨0, v, tp, _, false, by omega, rfl, HH.out.2.1, HH.out.2.2.1, (fun h => by cases h), fun _ => rfl⟩
  case round =>
    obtain ⟨k, v1, tp1, l1, br1, hk, rfl, hrd1, hb1, hl1, hl2⟩ := hrel
    by_cases hlt : k < 3
    · have hll : l1.length ≤ 140737488355328 := by
        cases br1 with
        | true => rw [hl1 rfl]; decide
        | false =>
          rw [hl2 rfl, List.length_append, byB_length]
          have h2 : (brk x).length = 48 := by unfold brk; rw [List.length_cons, z47_len]
          omega
      have hnd := next_dead hrd1 (Nat.le_of_lt hrd1.blk.lt) hll false false hl1 (fun h => by rw [hl2 h]; exact brk_find x HH.out.2.2.2.2 (byB s) false false)
      have HN := Lib.hid hnd
      have HB1 := Lib.hid (And.intro hb1 hrd1.blk.lt)
      clear hnd hrd1 hb1 hl1 hl2 hll
      go_wp2_with fail
      refine HN.out.mono ?_
      rintro e1 Wa ⟨aa, ac, da, dc, v2, tp2, rfl, hab, hdb, hrd2, hb2⟩
      have HA : Hid (IsRd Wa rb rb v2 tp2 [] true ∧ Below rb W2 Wa ∧ IsBytes Wa aa ([] : List Nat) ∧ IsBytes Wa da ([] : List Nat)) := Lib.hid ⟨hrd2, HB1.out.1.trans hb2, hab, hdb⟩
      clear hab hdb hrd2 hb2 HN
      go_upto_region 24 with (refine store_pb (by rfl) (.tmp 14) (.tmp 84) (by rfl) Wa (by rfl) (by rfl) {} aa ac da dc (by rfl) ?_; intro Wb hbb hkb; have HB : Hid (IsRd Wb rb rb v2 tp2 [] true ∧ Below rb W2 Wb ∧ IsBytes Wb aa ([] : List Nat) ∧ IsBytes Wb da ([] : List Nat) ∧ IsBlk Wb Wa.heap.size (pdC {} aa ac da dc) 28) := Lib.hid ⟨HA.out.1.below hbb, HA.out.2.1.trans (hbb.mono (Nat.le_of_lt HA.out.1.blk.lt)), HA.out.2.2.1.of_below hbb, HA.out.2.2.2.of_below hbb, hkb⟩; clear hbb hkb)
      go_wp2_with (refine load_pb (by rfl) (.tmp 14) (by rfl) Wa.heap.size (by rfl) {} aa ac da dc (by exact HB.out.2.2.2.2) ?_)
      refine (same_pd {} aa da none none ac dc 0 0 Wb HB.out.2.2.1 HB.out.2.2.2.1 ⟨by simp, .inl rfl⟩ ⟨by simp, .inl rfl⟩).mono ?_
      rintro e1 Wc ⟨rfl, hbc⟩
      have HC : Hid (IsRd Wc rb rb v2 tp2 [] true ∧ Below rb W2 Wc) := Lib.hid ⟨HB.out.1.below hbc, HB.out.2.1.trans (hbc.mono (Nat.le_of_lt HB.out.1.blk.lt))⟩
      clear hbc HB HA
      go_wp2_with fail
      refine (left_any HC.out.1 0 rfl).mono ?_
      rintro e1 Wd ⟨rfl, rfl⟩
      go_wp2_with fail
      refine (feed_broken HC.out.1 s).mono ?_
      rintro e1 Wd ⟨rfl, rfl⟩
      go_wp2_with fail
      go_roundw
      case rel => exact ⟨k + 1, v2, tp2, [], true, by omega, by go_num, HC.out.1, HC.out.2, fun _ => rfl, fun h => by cases h⟩
      case measure => simp [intOf]; omega
    · have HB1 := Lib.hid hb1
      clear hrd1 hb1 hl1 hl2
      go_wp2_with fail
      refine HK.out _ _ ?_
      go_wp2_with fail
      go_ret
      exact ⟨rfl, HH.out.1.end_ HB1.out (Below.refl _ _)⟩

set_option maxRecDepth 100000 in
set_option maxHeartbeats 2000000 in
theorem stops_14 {w W2 wr : World} {rb n cap : Nat} {a : Option Addr} {ps : List PE} {v : Value} {tp : Option Addr} {x : Nat} {s : ByteArray} (hP : StP w W2 rb n a ps) (hrd : IsRd wr rb rb v tp (cat ps false false ++ (brk x ++ byB s)) false) (hb : Below rb W2 wr) (hmay : mayTo ps n) (hn10 : n ≤ 10) (hsz : s.size ≤ 2000) (hx : 128 ≤ x) {u1 u3 u4 u5 u6 u8 u9 u10 u11 u12 u13 u14 u15 u16 u17 u18 u19 u20 u21 u22 u23 u24 u25 u26 u27 u28 u29 u30 u31 u32 u33 u34 u35 u36 u37 u38 u39 u40 u41 u42 u43 u44 u45 u46 u47 u48 u49 u50 u51 u52 u53 u54 u55 u56 u57 u58 u59 u60 u61 u62 u63 u64 u65 u66 u67 u68 u69 u70 u71 u72 u73 u74 u75 u76 u77 u78 u79 u80 u81 u82 u83 u84 u85 u86 u87 u88 u89 u90 u91 u92 u93 u94 u95 u96 u97 u98 u99 u100 u101 u102 : Value} :
    Code.wp Try.prog (restOf Try.f8 14) (bodyPost Try.prog Try.f8 (fun e w' => e = .returned (.bool true) ∧ Below w.heap.size w w')) ⟨(.slice a n cap :: u1 :: .string s :: u3 :: u4 :: u5 :: u6 :: .pointer (some ⟨rb, 0, none⟩) :: u8 :: u9 :: u10 :: u11 :: u12 :: u13 :: u14 :: u15 :: u16 :: u17 :: u18 :: u19 :: u20 :: u21 :: u22 :: u23 :: u24 :: u25 :: u26 :: u27 :: u28 :: u29 :: u30 :: u31 :: u32 :: u33 :: u34 :: u35 :: u36 :: u37 :: u38 :: u39 :: u40 :: u41 :: u42 :: u43 :: u44 :: u45 :: u46 :: u47 :: u48 :: u49 :: u50 :: u51 :: u52 :: u53 :: u54 :: u55 :: u56 :: u57 :: u58 :: u59 :: u60 :: u61 :: u62 :: u63 :: u64 :: u65 :: u66 :: u67 :: u68 :: u69 :: u70 :: u71 :: u72 :: u73 :: u74 :: u75 :: u76 :: u77 :: u78 :: u79 :: u80 :: u81 :: u82 :: u83 :: u84 :: u85 :: u86 :: u87 :: u88 :: u89 :: u90 :: u91 :: u92 :: u93 :: u94 :: u95 :: u96 :: u97 :: u98 :: u99 :: u100 :: u101 :: u102 :: []).toArray, []⟩ wr := by
  have HH := Lib.hid (And.intro hP (And.intro hrd (And.intro hb (And.intro hmay hx))))
  clear hP hrd hb hmay hx
  conv => arg 2; whnf
  refine wp_seq_k (fun K hK => ?_)
  have HK := Lib.hid hK
  clear hK
  go_wp2_with fail
  go_loopw [61] (fun i wx => ∃ (k : Nat) (v : Value) (tp : Option Addr), k ≤ n ∧ i = .int .i64 k ∧ IsRd wx rb rb v tp (cat (ps.drop k) false false ++ (brk x ++ byB s)) false ∧ Below rb W2 wx) (fun i _ => n - (intOf i).toNat)
  case atStart => exact ⟨0, v, tp, by omega, rfl, HH.out.2.1, HH.out.2.2.1⟩
  case round =>
    obtain ⟨k, v1, tp1, hk, rfl, hrd1, hb1⟩ := hrel
    by_cases hlt : k < n
    · have hlen := HH.out.1.len
      have hpr := HH.out.1.pds.below (w' := wr) (by have := HH.out.1.hrb; subst this; exact hb1)
      obtain ⟨b, off, rfl, hbl, hrow⟩ := hpr.at_.resolve_left (by rintro rfl; simp at hlen; omega)
      have hel := hpr.el k (by omega)
      have hrk := hrow k (by omega)
      have hcd := cat_drop ps k (by omega) false false
      have hmk := HH.out.2.2.2.1 k hlt
      obtain ⟨e, he⟩ : ∃ e, e = ps.getD k {} := ⟨_, rfl⟩
      rw [← he] at hel hrk hcd hmk
      rw [hcd, List.append_assoc] at hrd1
      obtain ⟨f1, f2, f3⟩ := find_whole e.p hel.ok hmk false false (cat (ps.drop (k + 1)) false false ++ (brk x ++ byB s))
      have hcl : (cat (ps.drop k) false false).length ≤ 4000 := by
        have h1 := cat_len ps (fun i hi => (HH.out.1.pds.el i hi).ok.wl) false false n (by omega)
        have h2 := cat_split ps k false false
        rw [← hlen, List.take_length] at h1
        rw [h2, List.length_append] at h1
        omega
      have hll : (encP e.p false false ++ (cat (ps.drop (k + 1)) false false ++ (brk x ++ byB s))).length ≤ 140737488355328 := by
        rw [← List.append_assoc, ← hcd, List.length_append, List.length_append, byB_length]
        have h2 : (brk x).length = 48 := by unfold brk; rw [List.length_cons, z47_len]
        omega
      have HN := Lib.hid (fun W (hbw : Below wr.heap.size wr W) => next_c (hrd1.below hbw) (Nat.le_trans (Nat.le_of_lt hrd1.blk.lt) hbw.size) hll false false .whole 1 e.p _ false rfl rfl f1 f2 f3)
      have HE := Lib.hid (And.intro hel (And.intro hrk (And.intro hb1 hrd1.blk.lt)))
      have HRW := Lib.hid (And.intro hlen hrd1)
      have HEq := Lib.hid he
      clear hrd1 hb1 hel hrk hcd hmk he f1 f2 f3 hll hcl hpr hrow hlen
      have z1 : (k : Int) < (n : Int) := by omega
      go_upto_region 17 with (first
        | (refine load_pe (by rfl) (.tmp 63) (by rfl) b (off + k * 16) (by rfl) e (by exact HE.out.2.1) ?_)
        | (refine store_pb (by rfl) (.tmp 11) (.tmp 64) (by rfl) wr (by rfl) (by rfl) e.p e.aa e.ac e.da e.dc (by rfl) ?_; intro Wa hba hka; have HA := Lib.hid (And.intro hba hka); clear hba hka))
      have HNa := Lib.hid (HN.out _ HA.out.1)
      go_wp2_with fail
      refine HNa.out.mono ?_
      rintro e1 Wb ⟨aa, ac, da, dc, v2, tp2, rfl, hab, hdb, hrd2, hb2, hbu⟩
      have HB : Hid (IsRd Wb rb rb v2 tp2 (cat (ps.drop (k + 1)) false false ++ (brk x ++ byB s)) false ∧ Below rb W2 Wb ∧ IsBytes Wb aa e.p.ahs ∧ IsBytes Wb da e.p.data ∧ IsBlk Wb wr.heap.size (pdC e.p e.aa e.ac e.da e.dc) 28 ∧ PE.In Wb e) := Lib.hid ⟨hrd2, (HE.out.2.2.1.trans (HA.out.1.mono (Nat.le_of_lt HE.out.2.2.2))).trans hb2, hab, hdb, hbu.blk HA.out.2 (fun h => by have := HE.out.2.2.2; omega), HH.out.1.in_ ((HE.out.2.2.1.trans (HA.out.1.mono (Nat.le_of_lt HE.out.2.2.2))).trans hb2) hlt HEq.out⟩
      clear hab hdb hrd2 hb2 hbu HNa
      go_upto_region 18 with (refine store_pb (by rfl) (.tmp 12) (.tmp 68) (by rfl) Wb (by rfl) (by rfl) e.p aa ac da dc (by rfl) ?_; intro Wc hbc hkc; have HC : Hid (IsRd Wc rb rb v2 tp2 (cat (ps.drop (k + 1)) false false ++ (brk x ++ byB s)) false ∧ Below rb W2 Wc ∧ IsBytes Wc aa e.p.ahs ∧ IsBytes Wc da e.p.data ∧ IsBlk Wc wr.heap.size (pdC e.p e.aa e.ac e.da e.dc) 28 ∧ PE.In Wc e ∧ IsBlk Wc Wb.heap.size (pdC e.p aa ac da dc) 28) := Lib.hid ⟨HB.out.1.below hbc, HB.out.2.1.trans (hbc.mono (Nat.le_of_lt HB.out.1.blk.lt)), HB.out.2.2.1.of_below hbc, HB.out.2.2.2.1.of_below hbc, HB.out.2.2.2.2.1.below hbc HB.out.2.2.2.2.1.lt, HB.out.2.2.2.2.2.below hbc, hkc⟩; clear hbc hkc)
      go_wp2_with (first
        | (refine load_pb (by rfl) (.tmp 11) (by rfl) wr.heap.size (by rfl) e.p e.aa e.ac e.da e.dc (by exact HC.out.2.2.2.2.1) ?_)
        | (refine load_pb (by rfl) (.tmp 12) (by rfl) Wb.heap.size (by rfl) e.p aa ac da dc (by exact HC.out.2.2.2.2.2.2) ?_))
      refine (same_pd e.p e.aa e.da aa da e.ac e.dc ac dc Wc HC.out.2.2.2.2.2.1.ab HC.out.2.2.2.2.2.1.db HC.out.2.2.1 HC.out.2.2.2.1).mono ?_
      rintro e1 Wd ⟨rfl, hbd⟩
      have HD := Lib.hid (And.intro (HC.out.1.below hbd) (HC.out.2.1.trans (hbd.mono (Nat.le_of_lt HC.out.1.blk.lt))))
      clear hbd
      go_wp2_with fail
      go_roundw
      case rel => exact ⟨k + 1, v2, tp2, by omega, by go_num, HD.out.1, HD.out.2⟩
      case measure => simp [intOf]; omega
    · obtain rfl : k = n := by omega
      rw [← HH.out.1.len, List.drop_length, cat_nil, List.nil_append] at hrd1
      have HB1 := Lib.hid (And.intro hrd1 hb1)
      clear hrd1 hb1
      go_wp2_with fail
      refine HK.out _ _ ?_
      exact stops_21 (ps := ps) (a := a) (n := k) HH.out.1 HB1.out.1 HB1.out.2 hsz HH.out.2.2.2.2

set_option maxRecDepth 100000 in
set_option maxHeartbeats 8000000 in
theorem stops_13 {w W2 wc : World} {rb n cap : Nat} {a : Option Addr} {ps : List PE} {v5 : Value} {c : Nat} {s : ByteArray} (hP : StP w W2 rb n a ps) (hrd : IsRd wc rb rb v5 none (cat ps false false) false) (hb : Below rb W2 wc) (hmay : mayTo ps n) (hn10 : n ≤ 10) (hsz : s.size ≤ 2000) (hc : c < 256) {u3 u4 u5 u6 u8 u9 u10 u11 u12 u13 u14 u15 u16 u17 u18 u19 u20 u21 u22 u23 u24 u25 u26 u27 u28 u29 u30 u31 u32 u33 u34 u35 u36 u37 u38 u39 u40 u41 u42 u43 u44 u45 u46 u47 u48 u49 u50 u51 u52 u53 u54 u55 u56 u57 u58 u59 u60 u61 u62 u63 u64 u65 u66 u67 u68 u69 u70 u71 u72 u73 u74 u75 u76 u77 u78 u79 u80 u81 u82 u83 u84 u85 u86 u87 u88 u89 u90 u91 u92 u93 u94 u95 u96 u97 u98 u99 u100 u101 u102 : Value} :
    Code.wp Try.prog (restOf Try.f8 13) (bodyPost Try.prog Try.f8 (fun e w' => e = .returned (.bool true) ∧ Below w.heap.size w w')) ⟨(.slice a n cap :: .int .u8 (c : Nat) :: .string s :: u3 :: u4 :: u5 :: u6 :: .pointer (some ⟨rb, 0, none⟩) :: u8 :: u9 :: u10 :: u11 :: u12 :: u13 :: u14 :: u15 :: u16 :: u17 :: u18 :: u19 :: u20 :: u21 :: u22 :: u23 :: u24 :: u25 :: u26 :: u27 :: u28 :: u29 :: u30 :: u31 :: u32 :: u33 :: u34 :: u35 :: u36 :: u37 :: u38 :: u39 :: u40 :: u41 :: u42 :: u43 :: u44 :: u45 :: u46 :: u47 :: u48 :: u49 :: u50 :: u51 :: u52 :: u53 :: u54 :: u55 :: u56 :: u57 :: u58 :: u59 :: u60 :: u61 :: u62 :: u63 :: u64 :: u65 :: u66 :: u67 :: u68 :: u69 :: u70 :: u71 :: u72 :: u73 :: u74 :: u75 :: u76 :: u77 :: u78 :: u79 :: u80 :: u81 :: u82 :: u83 :: u84 :: u85 :: u86 :: u87 :: u88 :: u89 :: u90 :: u91 :: u92 :: u93 :: u94 :: u95 :: u96 :: u97 :: u98 :: u99 :: u100 :: u101 :: u102 :: []).toArray, []⟩ wc := by
  have hcl := cat_len ps (fun i hi => (hP.pds.el i hi).ok.wl) false false n (by rw [hP.len]; exact Nat.le_refl _)
  rw [← hP.len, List.take_length, hP.len] at hcl
  have HCL : Hid ((cat ps false false).length ≤ 4000 ∧ s.size ≤ 2000) := Lib.hid ⟨by omega, hsz⟩
  have HF := Lib.hid (And.intro hrd (And.intro hb (And.intro hmay hP)))
  clear hrd hb hmay hcl hP
  obtain ⟨x, hx⟩ : ∃ x, x = c % 128 + 128 := ⟨_, rfl⟩
  have ev := or128 c hc
  rw [← hx] at ev
  have HXB : Hid (∀ y ∈ brk x ++ byB s, y < 256) := Lib.hid (fun y hy => by
    rcases List.mem_append.1 hy with hy | hy
    · exact brk_lt x (by omega) y hy
    · exact byB_lt s y hy)
  have HXL : Hid (∀ y ∈ [x], y < 256) := Lib.hid (fun y hy => by rw [List.mem_singleton.1 hy]; omega)
  have HX : Hid (128 ≤ x) := Lib.hid (by omega)
  clear hx
  conv => arg 2; whnf
  refine wp_seq_k (fun K hK => ?_)
  have HK := Lib.hid hK
  clear hK
  have hmk := run_make47
  have eb1 := brk_eqx x
  have eb2 := strB_app_s (brk x) s
  have l1 : (strB [x]).size = 1 := strB_size [x]
  have l2 : (strB z47).size = 47 := by rw [strB_size, z47_len]
  have l3 : (strB (brk x)).size = 48 := by rw [strB_size]; unfold brk; rw [List.length_cons, z47_len]
  have l4 : ¬ 9223372036854775807 < 48 + s.size := by omega
  have HW : Hid (Below wc.heap.size wc wc.drew) := Lib.hid (Below.refl _ _).drew
  refine wp_region_held_drew (S := fun w' => True) (by kernel_rfl) trivial (fun hHeld => ?_)
  generalize wc.drew = V0 at *
  have HW := Lib.hid HW.out
  refine wpAnyH_take (i := 0) (v := ?_) rfl (by kernel_rfl) (by kernel_rfl) (by kernel_rfl) (fun _ _ _ h => h) (Or.inl ⟨by rfl, ?_⟩) (by with_reducible assumption) ?_
  rotate_left
  · intro w hSw; (try dsimp only at hSw); (try go_split_ands); go_simp; (try with_reducible rfl)
  (try simp only [Act.put, List.getElem_toArray, List.getElem_cons_succ, List.getElem_cons_zero, List.setIfInBounds_toArray, List.set_cons_zero, List.set_cons_succ])
  refine wpAnyH_take (i := 1) (v := ?_) rfl (by kernel_rfl) (by kernel_rfl) (by kernel_rfl) (fun _ _ _ h => h) (Or.inl ⟨by rfl, ?_⟩) (by with_reducible assumption) ?_
  rotate_left
  · intro w hSw; (try dsimp only at hSw); (try go_split_ands); go_simp; (try with_reducible rfl)
  (try simp only [Act.put, List.getElem_toArray, List.getElem_cons_succ, List.getElem_cons_zero, List.setIfInBounds_toArray, List.set_cons_zero, List.set_cons_succ])
  refine wpAnyH_take (i := 2) (v := ?_) rfl (by kernel_rfl) (by kernel_rfl) (by kernel_rfl) (fun _ _ _ h => h) (Or.inl ⟨by rfl, ?_⟩) (by with_reducible assumption) ?_
  rotate_left
  · intro w hSw; (try dsimp only at hSw); (try go_split_ands); go_simp; (try with_reducible rfl)
  (try simp only [Act.put, List.getElem_toArray, List.getElem_cons_succ, List.getElem_cons_zero, List.setIfInBounds_toArray, List.set_cons_zero, List.set_cons_succ])
  refine wpAnyH_take (i := 8) (v := ?_) rfl (by kernel_rfl) (by kernel_rfl) (by kernel_rfl) (fun _ _ _ h => h) (Or.inl ⟨by rfl, ?_⟩) (by with_reducible assumption) ?_
  rotate_left
  · intro w hSw; (try dsimp only at hSw); (try go_split_ands); go_simp; (try with_reducible rfl)
  (try simp only [Act.put, List.getElem_toArray, List.getElem_cons_succ, List.getElem_cons_zero, List.setIfInBounds_toArray, List.set_cons_zero, List.set_cons_succ])
  refine wpAnyH_ready (rs := [3, 5]) (by kernel_rfl) (by simp) ?_
  refine AllReadyH.cons rfl (fun K2 hK2 => ?_) (AllReadyH.cons rfl (fun K2 hK2 => ?_) (AllReadyH.nil))
  · go_simp
    have HA : Hid (Below wc.heap.size wc (V0.alloc (.cells (nv .u8 [x]) 5)) ∧ IsBytes (V0.alloc (.cells (nv .u8 [x]) 5)) (some ⟨V0.heap.size, 0, none⟩) [x]) := Lib.hid ⟨HW.out.alloc HW.out.size _, isBytes_row (IsBlk.new V0 _ _) HXL.out⟩
    refine hK2.out _ (V0.alloc (.cells (nv .u8 [x]) 5)) trivial (fun hHeld => ?_)
    clear hK2 K2
    have HW := Lib.hid HA.out.1
    have HA := Lib.hid HA.out.2
    obtain ⟨g1, hg1⟩ : ∃ g, V0.heap.size = g := ⟨_, rfl⟩
    rw [hg1] at HA ⊢
    clear hg1
    generalize V0.alloc (.cells (nv .u8 [x]) 5) = V1 at *
    have HW := Lib.hid HW.out
    have kA : (convert 23 9 (.slice (some ⟨g1, 0, none⟩) 1 1)).run Try.prog V1 = .ok (.string (strB [x])) V1 := conv_bytes HA.out rfl
    (try simp only [Act.put, List.getElem_toArray, List.getElem_cons_succ, List.getElem_cons_zero, List.setIfInBounds_toArray, List.set_cons_zero, List.set_cons_succ])
    refine wpAnyH_ready (rs := [4, 5]) (by kernel_rfl) (by simp) ?_
    refine AllReadyH.cons rfl (fun K2 hK2 => ?_) (AllReadyH.cons rfl (fun K2 hK2 => ?_) (AllReadyH.nil))
    · go_simp
      refine hK2.out _ _ trivial (fun hHeld => ?_)
      clear hK2 K2
      (try simp only [Act.put, List.getElem_toArray, List.getElem_cons_succ, List.getElem_cons_zero, List.setIfInBounds_toArray, List.set_cons_zero, List.set_cons_succ])
      refine wpAnyH_ready (rs := [5]) (by kernel_rfl) (by simp) ?_
      refine AllReadyH.cons rfl (fun K2 hK2 => ?_) (AllReadyH.nil)
      · go_simp
        have HB : Hid (Below wc.heap.size wc (V1.alloc (.cells (nv .u8 z47) 5)) ∧ IsBytes (V1.alloc (.cells (nv .u8 z47) 5)) (some ⟨V1.heap.size, 0, none⟩) z47) := Lib.hid ⟨HW.out.alloc HW.out.size _, isBytes_row (IsBlk.new V1 _ _) z47_lt⟩
        have HA := Lib.hid (HA.out.alloc (.cells (nv .u8 z47) 5))
        refine hK2.out _ (V1.alloc (.cells (nv .u8 z47) 5)) trivial (fun hHeld => ?_)
        clear hK2 K2
        have HW := Lib.hid HB.out.1
        have HZ := Lib.hid HB.out.2
        clear HB
        obtain ⟨g2, hg2⟩ : ∃ g, V1.heap.size = g := ⟨_, rfl⟩
        rw [hg2] at HZ ⊢
        clear hg2
        generalize V1.alloc (.cells (nv .u8 z47) 5) = V3 at *
        have HW := Lib.hid HW.out
        have kB : (convert 23 9 (.slice (some ⟨g2, 0, none⟩) 47 47)).run Try.prog V3 = .ok (.string (strB z47)) V3 := conv_bytes HZ.out z47_len.symm
        (try simp only [Act.put, List.getElem_toArray, List.getElem_cons_succ, List.getElem_cons_zero, List.setIfInBounds_toArray, List.set_cons_zero, List.set_cons_succ])
        refine wpAnyH_ready (rs := [6]) (by kernel_rfl) (by simp) ?_
        refine AllReadyH.cons rfl (fun K2 hK2 => ?_) (AllReadyH.nil)
        · go_simp
          refine hK2.out _ _ trivial (fun hHeld => ?_)
          clear hK2 K2
          (try simp only [Act.put, List.getElem_toArray, List.getElem_cons_succ, List.getElem_cons_zero, List.setIfInBounds_toArray, List.set_cons_zero, List.set_cons_succ])
          refine wpAnyH_take (i := 7) (v := ?_) rfl (by kernel_rfl) (by kernel_rfl) (by kernel_rfl) (fun _ _ _ h => h) (Or.inl ⟨by rfl, ?_⟩) (by with_reducible assumption) ?_
          rotate_left
          · intro w hSw; (try dsimp only at hSw); (try go_split_ands); go_simp; (try with_reducible rfl)
          (try simp only [Act.put, List.getElem_toArray, List.getElem_cons_succ, List.getElem_cons_zero, List.setIfInBounds_toArray, List.set_cons_zero, List.set_cons_succ])
          refine wpAnyH_take (i := 9) (v := ?_) rfl (by kernel_rfl) (by kernel_rfl) (by kernel_rfl) (fun _ _ _ h => h) (Or.inl ⟨by rfl, ?_⟩) (by with_reducible assumption) ?_
          rotate_left
          · intro w hSw; (try dsimp only at hSw); (try go_split_ands); go_simp; (try with_reducible rfl)
          (try simp only [Act.put, List.getElem_toArray, List.getElem_cons_succ, List.getElem_cons_zero, List.setIfInBounds_toArray, List.set_cons_zero, List.set_cons_succ])
          refine wpAnyH_ready (rs := [10]) (by kernel_rfl) (by simp) ?_
          refine AllReadyH.cons rfl (fun K2 hK2 => ?_) AllReadyH.nil
          go_simp
          go_at_call 15
          refine (feed_b (HF.out.1.below HW.out) (brk x ++ byB s) HXB.out (by have h1 := HCL.out; have h2 := brk_len x; have h3 := byB_length s; rw [List.length_append]; omega) (Nat.le_trans (Nat.le_of_lt HF.out.1.blk.lt) HW.out.size)).mono ?_
          rintro e1 We ⟨rfl, ve, hrde, hbe⟩
          have HG := Lib.hid (And.intro hrde ((HF.out.2.1.trans (HW.out.mono (Nat.le_of_lt HF.out.1.blk.lt))).trans hbe))
          clear hrde hbe
          refine hK2.out _ _ trivial (fun hHeld => ?_)
          clear hK2 K2
          (try simp only [Act.put, List.getElem_toArray, List.getElem_cons_succ, List.getElem_cons_zero, List.setIfInBounds_toArray, List.set_cons_zero, List.set_cons_succ])
          refine wpAnyH_done (by kernel_rfl) ?_ _
          refine HK.out _ _ ?_
          exact stops_14 (cap := cap) HF.out.2.2.2 HG.out.1 HG.out.2 HF.out.2.2.1 hn10 hsz HX.out
    · go_simp
      have HB : Hid (Below wc.heap.size wc (V1.alloc (.cells (nv .u8 z47) 5)) ∧ IsBytes (V1.alloc (.cells (nv .u8 z47) 5)) (some ⟨V1.heap.size, 0, none⟩) z47) := Lib.hid ⟨HW.out.alloc HW.out.size _, isBytes_row (IsBlk.new V1 _ _) z47_lt⟩
      have HA := Lib.hid (HA.out.alloc (.cells (nv .u8 z47) 5))
      refine hK2.out _ (V1.alloc (.cells (nv .u8 z47) 5)) trivial (fun hHeld => ?_)
      clear hK2 K2
      have HW := Lib.hid HB.out.1
      have HZ := Lib.hid HB.out.2
      clear HB
      obtain ⟨g2, hg2⟩ : ∃ g, V1.heap.size = g := ⟨_, rfl⟩
      rw [hg2] at HZ ⊢
      clear hg2
      generalize V1.alloc (.cells (nv .u8 z47) 5) = V2 at *
      have HW := Lib.hid HW.out
      have kB : (convert 23 9 (.slice (some ⟨g2, 0, none⟩) 47 47)).run Try.prog V2 = .ok (.string (strB z47)) V2 := conv_bytes HZ.out z47_len.symm
      clear kA
      have kA : (convert 23 9 (.slice (some ⟨g1, 0, none⟩) 1 1)).run Try.prog V2 = .ok (.string (strB [x])) V2 := conv_bytes HA.out rfl
      (try simp only [Act.put, List.getElem_toArray, List.getElem_cons_succ, List.getElem_cons_zero, List.setIfInBounds_toArray, List.set_cons_zero, List.set_cons_succ])
      refine wpAnyH_ready (rs := [4, 6]) (by kernel_rfl) (by simp) ?_
      refine AllReadyH.cons rfl (fun K2 hK2 => ?_) (AllReadyH.cons rfl (fun K2 hK2 => ?_) (AllReadyH.nil))
      · go_simp
        refine hK2.out _ _ trivial (fun hHeld => ?_)
        clear hK2 K2
        (try simp only [Act.put, List.getElem_toArray, List.getElem_cons_succ, List.getElem_cons_zero, List.setIfInBounds_toArray, List.set_cons_zero, List.set_cons_succ])
        refine wpAnyH_ready (rs := [6]) (by kernel_rfl) (by simp) ?_
        refine AllReadyH.cons rfl (fun K2 hK2 => ?_) (AllReadyH.nil)
        · go_simp
          refine hK2.out _ _ trivial (fun hHeld => ?_)
          clear hK2 K2
          (try simp only [Act.put, List.getElem_toArray, List.getElem_cons_succ, List.getElem_cons_zero, List.setIfInBounds_toArray, List.set_cons_zero, List.set_cons_succ])
          refine wpAnyH_take (i := 7) (v := ?_) rfl (by kernel_rfl) (by kernel_rfl) (by kernel_rfl) (fun _ _ _ h => h) (Or.inl ⟨by rfl, ?_⟩) (by with_reducible assumption) ?_
          rotate_left
          · intro w hSw; (try dsimp only at hSw); (try go_split_ands); go_simp; (try with_reducible rfl)
          (try simp only [Act.put, List.getElem_toArray, List.getElem_cons_succ, List.getElem_cons_zero, List.setIfInBounds_toArray, List.set_cons_zero, List.set_cons_succ])
          refine wpAnyH_take (i := 9) (v := ?_) rfl (by kernel_rfl) (by kernel_rfl) (by kernel_rfl) (fun _ _ _ h => h) (Or.inl ⟨by rfl, ?_⟩) (by with_reducible assumption) ?_
          rotate_left
          · intro w hSw; (try dsimp only at hSw); (try go_split_ands); go_simp; (try with_reducible rfl)
          (try simp only [Act.put, List.getElem_toArray, List.getElem_cons_succ, List.getElem_cons_zero, List.setIfInBounds_toArray, List.set_cons_zero, List.set_cons_succ])
          refine wpAnyH_ready (rs := [10]) (by kernel_rfl) (by simp) ?_
          refine AllReadyH.cons rfl (fun K2 hK2 => ?_) AllReadyH.nil
          go_simp
          go_at_call 15
          refine (feed_b (HF.out.1.below HW.out) (brk x ++ byB s) HXB.out (by have h1 := HCL.out; have h2 := brk_len x; have h3 := byB_length s; rw [List.length_append]; omega) (Nat.le_trans (Nat.le_of_lt HF.out.1.blk.lt) HW.out.size)).mono ?_
          rintro e1 We ⟨rfl, ve, hrde, hbe⟩
          have HG := Lib.hid (And.intro hrde ((HF.out.2.1.trans (HW.out.mono (Nat.le_of_lt HF.out.1.blk.lt))).trans hbe))
          clear hrde hbe
          refine hK2.out _ _ trivial (fun hHeld => ?_)
          clear hK2 K2
          (try simp only [Act.put, List.getElem_toArray, List.getElem_cons_succ, List.getElem_cons_zero, List.setIfInBounds_toArray, List.set_cons_zero, List.set_cons_succ])
          refine wpAnyH_done (by kernel_rfl) ?_ _
          refine HK.out _ _ ?_
          exact stops_14 (cap := cap) HF.out.2.2.2 HG.out.1 HG.out.2 HF.out.2.2.1 hn10 hsz HX.out
      · go_simp
        refine hK2.out _ _ trivial (fun hHeld => ?_)
        clear hK2 K2
        (try simp only [Act.put, List.getElem_toArray, List.getElem_cons_succ, List.getElem_cons_zero, List.setIfInBounds_toArray, List.set_cons_zero, List.set_cons_succ])
        refine wpAnyH_ready (rs := [4]) (by kernel_rfl) (by simp) ?_
        refine AllReadyH.cons rfl (fun K2 hK2 => ?_) (AllReadyH.nil)
        · go_simp
          refine hK2.out _ _ trivial (fun hHeld => ?_)
          clear hK2 K2
          (try simp only [Act.put, List.getElem_toArray, List.getElem_cons_succ, List.getElem_cons_zero, List.setIfInBounds_toArray, List.set_cons_zero, List.set_cons_succ])
          refine wpAnyH_take (i := 7) (v := ?_) rfl (by kernel_rfl) (by kernel_rfl) (by kernel_rfl) (fun _ _ _ h => h) (Or.inl ⟨by rfl, ?_⟩) (by with_reducible assumption) ?_
          rotate_left
          · intro w hSw; (try dsimp only at hSw); (try go_split_ands); go_simp; (try with_reducible rfl)
          (try simp only [Act.put, List.getElem_toArray, List.getElem_cons_succ, List.getElem_cons_zero, List.setIfInBounds_toArray, List.set_cons_zero, List.set_cons_succ])
          refine wpAnyH_take (i := 9) (v := ?_) rfl (by kernel_rfl) (by kernel_rfl) (by kernel_rfl) (fun _ _ _ h => h) (Or.inl ⟨by rfl, ?_⟩) (by with_reducible assumption) ?_
          rotate_left
          · intro w hSw; (try dsimp only at hSw); (try go_split_ands); go_simp; (try with_reducible rfl)
          (try simp only [Act.put, List.getElem_toArray, List.getElem_cons_succ, List.getElem_cons_zero, List.setIfInBounds_toArray, List.set_cons_zero, List.set_cons_succ])
          refine wpAnyH_ready (rs := [10]) (by kernel_rfl) (by simp) ?_
          refine AllReadyH.cons rfl (fun K2 hK2 => ?_) AllReadyH.nil
          go_simp
          go_at_call 15
          refine (feed_b (HF.out.1.below HW.out) (brk x ++ byB s) HXB.out (by have h1 := HCL.out; have h2 := brk_len x; have h3 := byB_length s; rw [List.length_append]; omega) (Nat.le_trans (Nat.le_of_lt HF.out.1.blk.lt) HW.out.size)).mono ?_
          rintro e1 We ⟨rfl, ve, hrde, hbe⟩
          have HG := Lib.hid (And.intro hrde ((HF.out.2.1.trans (HW.out.mono (Nat.le_of_lt HF.out.1.blk.lt))).trans hbe))
          clear hrde hbe
          refine hK2.out _ _ trivial (fun hHeld => ?_)
          clear hK2 K2
          (try simp only [Act.put, List.getElem_toArray, List.getElem_cons_succ, List.getElem_cons_zero, List.setIfInBounds_toArray, List.set_cons_zero, List.set_cons_succ])
          refine wpAnyH_done (by kernel_rfl) ?_ _
          refine HK.out _ _ ?_
          exact stops_14 (cap := cap) HF.out.2.2.2 HG.out.1 HG.out.2 HF.out.2.2.1 hn10 hsz HX.out
  · go_simp
    have HB : Hid (Below wc.heap.size wc (V0.alloc (.cells (nv .u8 z47) 5)) ∧ IsBytes (V0.alloc (.cells (nv .u8 z47) 5)) (some ⟨V0.heap.size, 0, none⟩) z47) := Lib.hid ⟨HW.out.alloc HW.out.size _, isBytes_row (IsBlk.new V0 _ _) z47_lt⟩
    refine hK2.out _ (V0.alloc (.cells (nv .u8 z47) 5)) trivial (fun hHeld => ?_)
    clear hK2 K2
    have HW := Lib.hid HB.out.1
    have HZ := Lib.hid HB.out.2
    clear HB
    obtain ⟨g2, hg2⟩ : ∃ g, V0.heap.size = g := ⟨_, rfl⟩
    rw [hg2] at HZ ⊢
    clear hg2
    generalize V0.alloc (.cells (nv .u8 z47) 5) = V1 at *
    have HW := Lib.hid HW.out
    have kB : (convert 23 9 (.slice (some ⟨g2, 0, none⟩) 47 47)).run Try.prog V1 = .ok (.string (strB z47)) V1 := conv_bytes HZ.out z47_len.symm
    (try simp only [Act.put, List.getElem_toArray, List.getElem_cons_succ, List.getElem_cons_zero, List.setIfInBounds_toArray, List.set_cons_zero, List.set_cons_succ])
    refine wpAnyH_ready (rs := [3, 6]) (by kernel_rfl) (by simp) ?_
    refine AllReadyH.cons rfl (fun K2 hK2 => ?_) (AllReadyH.cons rfl (fun K2 hK2 => ?_) (AllReadyH.nil))
    · go_simp
      have HA : Hid (Below wc.heap.size wc (V1.alloc (.cells (nv .u8 [x]) 5)) ∧ IsBytes (V1.alloc (.cells (nv .u8 [x]) 5)) (some ⟨V1.heap.size, 0, none⟩) [x]) := Lib.hid ⟨HW.out.alloc HW.out.size _, isBytes_row (IsBlk.new V1 _ _) HXL.out⟩
      have HZ := Lib.hid (HZ.out.alloc (.cells (nv .u8 [x]) 5))
      refine hK2.out _ (V1.alloc (.cells (nv .u8 [x]) 5)) trivial (fun hHeld => ?_)
      clear hK2 K2
      have HW := Lib.hid HA.out.1
      have HA := Lib.hid HA.out.2
      obtain ⟨g1, hg1⟩ : ∃ g, V1.heap.size = g := ⟨_, rfl⟩
      rw [hg1] at HA ⊢
      clear hg1
      generalize V1.alloc (.cells (nv .u8 [x]) 5) = V2 at *
      have HW := Lib.hid HW.out
      have kA : (convert 23 9 (.slice (some ⟨g1, 0, none⟩) 1 1)).run Try.prog V2 = .ok (.string (strB [x])) V2 := conv_bytes HA.out rfl
      clear kB
      have kB : (convert 23 9 (.slice (some ⟨g2, 0, none⟩) 47 47)).run Try.prog V2 = .ok (.string (strB z47)) V2 := conv_bytes HZ.out z47_len.symm
      (try simp only [Act.put, List.getElem_toArray, List.getElem_cons_succ, List.getElem_cons_zero, List.setIfInBounds_toArray, List.set_cons_zero, List.set_cons_succ])
      refine wpAnyH_ready (rs := [4, 6]) (by kernel_rfl) (by simp) ?_
      refine AllReadyH.cons rfl (fun K2 hK2 => ?_) (AllReadyH.cons rfl (fun K2 hK2 => ?_) (AllReadyH.nil))
      · go_simp
        refine hK2.out _ _ trivial (fun hHeld => ?_)
        clear hK2 K2
        (try simp only [Act.put, List.getElem_toArray, List.getElem_cons_succ, List.getElem_cons_zero, List.setIfInBounds_toArray, List.set_cons_zero, List.set_cons_succ])
        refine wpAnyH_ready (rs := [6]) (by kernel_rfl) (by simp) ?_
        refine AllReadyH.cons rfl (fun K2 hK2 => ?_) (AllReadyH.nil)
        · go_simp
          refine hK2.out _ _ trivial (fun hHeld => ?_)
          clear hK2 K2
          (try simp only [Act.put, List.getElem_toArray, List.getElem_cons_succ, List.getElem_cons_zero, List.setIfInBounds_toArray, List.set_cons_zero, List.set_cons_succ])
          refine wpAnyH_take (i := 7) (v := ?_) rfl (by kernel_rfl) (by kernel_rfl) (by kernel_rfl) (fun _ _ _ h => h) (Or.inl ⟨by rfl, ?_⟩) (by with_reducible assumption) ?_
          rotate_left
          · intro w hSw; (try dsimp only at hSw); (try go_split_ands); go_simp; (try with_reducible rfl)
          (try simp only [Act.put, List.getElem_toArray, List.getElem_cons_succ, List.getElem_cons_zero, List.setIfInBounds_toArray, List.set_cons_zero, List.set_cons_succ])
          refine wpAnyH_take (i := 9) (v := ?_) rfl (by kernel_rfl) (by kernel_rfl) (by kernel_rfl) (fun _ _ _ h => h) (Or.inl ⟨by rfl, ?_⟩) (by with_reducible assumption) ?_
          rotate_left
          · intro w hSw; (try dsimp only at hSw); (try go_split_ands); go_simp; (try with_reducible rfl)
          (try simp only [Act.put, List.getElem_toArray, List.getElem_cons_succ, List.getElem_cons_zero, List.setIfInBounds_toArray, List.set_cons_zero, List.set_cons_succ])
          refine wpAnyH_ready (rs := [10]) (by kernel_rfl) (by simp) ?_
          refine AllReadyH.cons rfl (fun K2 hK2 => ?_) AllReadyH.nil
          go_simp
          go_at_call 15
          refine (feed_b (HF.out.1.below HW.out) (brk x ++ byB s) HXB.out (by have h1 := HCL.out; have h2 := brk_len x; have h3 := byB_length s; rw [List.length_append]; omega) (Nat.le_trans (Nat.le_of_lt HF.out.1.blk.lt) HW.out.size)).mono ?_
          rintro e1 We ⟨rfl, ve, hrde, hbe⟩
          have HG := Lib.hid (And.intro hrde ((HF.out.2.1.trans (HW.out.mono (Nat.le_of_lt HF.out.1.blk.lt))).trans hbe))
          clear hrde hbe
          refine hK2.out _ _ trivial (fun hHeld => ?_)
          clear hK2 K2
          (try simp only [Act.put, List.getElem_toArray, List.getElem_cons_succ, List.getElem_cons_zero, List.setIfInBounds_toArray, List.set_cons_zero, List.set_cons_succ])
          refine wpAnyH_done (by kernel_rfl) ?_ _
          refine HK.out _ _ ?_
          exact stops_14 (cap := cap) HF.out.2.2.2 HG.out.1 HG.out.2 HF.out.2.2.1 hn10 hsz HX.out
      · go_simp
        refine hK2.out _ _ trivial (fun hHeld => ?_)
        clear hK2 K2
        (try simp only [Act.put, List.getElem_toArray, List.getElem_cons_succ, List.getElem_cons_zero, List.setIfInBounds_toArray, List.set_cons_zero, List.set_cons_succ])
        refine wpAnyH_ready (rs := [4]) (by kernel_rfl) (by simp) ?_
        refine AllReadyH.cons rfl (fun K2 hK2 => ?_) (AllReadyH.nil)
        · go_simp
          refine hK2.out _ _ trivial (fun hHeld => ?_)
          clear hK2 K2
          (try simp only [Act.put, List.getElem_toArray, List.getElem_cons_succ, List.getElem_cons_zero, List.setIfInBounds_toArray, List.set_cons_zero, List.set_cons_succ])
          refine wpAnyH_take (i := 7) (v := ?_) rfl (by kernel_rfl) (by kernel_rfl) (by kernel_rfl) (fun _ _ _ h => h) (Or.inl ⟨by rfl, ?_⟩) (by with_reducible assumption) ?_
          rotate_left
          · intro w hSw; (try dsimp only at hSw); (try go_split_ands); go_simp; (try with_reducible rfl)
          (try simp only [Act.put, List.getElem_toArray, List.getElem_cons_succ, List.getElem_cons_zero, List.setIfInBounds_toArray, List.set_cons_zero, List.set_cons_succ])
          refine wpAnyH_take (i := 9) (v := ?_) rfl (by kernel_rfl) (by kernel_rfl) (by kernel_rfl) (fun _ _ _ h => h) (Or.inl ⟨by rfl, ?_⟩) (by with_reducible assumption) ?_
          rotate_left
          · intro w hSw; (try dsimp only at hSw); (try go_split_ands); go_simp; (try with_reducible rfl)
          (try simp only [Act.put, List.getElem_toArray, List.getElem_cons_succ, List.getElem_cons_zero, List.setIfInBounds_toArray, List.set_cons_zero, List.set_cons_succ])
          refine wpAnyH_ready (rs := [10]) (by kernel_rfl) (by simp) ?_
          refine AllReadyH.cons rfl (fun K2 hK2 => ?_) AllReadyH.nil
          go_simp
          go_at_call 15
          refine (feed_b (HF.out.1.below HW.out) (brk x ++ byB s) HXB.out (by have h1 := HCL.out; have h2 := brk_len x; have h3 := byB_length s; rw [List.length_append]; omega) (Nat.le_trans (Nat.le_of_lt HF.out.1.blk.lt) HW.out.size)).mono ?_
          rintro e1 We ⟨rfl, ve, hrde, hbe⟩
          have HG := Lib.hid (And.intro hrde ((HF.out.2.1.trans (HW.out.mono (Nat.le_of_lt HF.out.1.blk.lt))).trans hbe))
          clear hrde hbe
          refine hK2.out _ _ trivial (fun hHeld => ?_)
          clear hK2 K2
          (try simp only [Act.put, List.getElem_toArray, List.getElem_cons_succ, List.getElem_cons_zero, List.setIfInBounds_toArray, List.set_cons_zero, List.set_cons_succ])
          refine wpAnyH_done (by kernel_rfl) ?_ _
          refine HK.out _ _ ?_
          exact stops_14 (cap := cap) HF.out.2.2.2 HG.out.1 HG.out.2 HF.out.2.2.1 hn10 hsz HX.out
    · go_simp
      refine hK2.out _ _ trivial (fun hHeld => ?_)
      clear hK2 K2
      (try simp only [Act.put, List.getElem_toArray, List.getElem_cons_succ, List.getElem_cons_zero, List.setIfInBounds_toArray, List.set_cons_zero, List.set_cons_succ])
      refine wpAnyH_ready (rs := [3]) (by kernel_rfl) (by simp) ?_
      refine AllReadyH.cons rfl (fun K2 hK2 => ?_) (AllReadyH.nil)
      · go_simp
        have HA : Hid (Below wc.heap.size wc (V1.alloc (.cells (nv .u8 [x]) 5)) ∧ IsBytes (V1.alloc (.cells (nv .u8 [x]) 5)) (some ⟨V1.heap.size, 0, none⟩) [x]) := Lib.hid ⟨HW.out.alloc HW.out.size _, isBytes_row (IsBlk.new V1 _ _) HXL.out⟩
        have HZ := Lib.hid (HZ.out.alloc (.cells (nv .u8 [x]) 5))
        refine hK2.out _ (V1.alloc (.cells (nv .u8 [x]) 5)) trivial (fun hHeld => ?_)
        clear hK2 K2
        have HW := Lib.hid HA.out.1
        have HA := Lib.hid HA.out.2
        obtain ⟨g1, hg1⟩ : ∃ g, V1.heap.size = g := ⟨_, rfl⟩
        rw [hg1] at HA ⊢
        clear hg1
        generalize V1.alloc (.cells (nv .u8 [x]) 5) = V3 at *
        have HW := Lib.hid HW.out
        have kA : (convert 23 9 (.slice (some ⟨g1, 0, none⟩) 1 1)).run Try.prog V3 = .ok (.string (strB [x])) V3 := conv_bytes HA.out rfl
        (try simp only [Act.put, List.getElem_toArray, List.getElem_cons_succ, List.getElem_cons_zero, List.setIfInBounds_toArray, List.set_cons_zero, List.set_cons_succ])
        refine wpAnyH_ready (rs := [4]) (by kernel_rfl) (by simp) ?_
        refine AllReadyH.cons rfl (fun K2 hK2 => ?_) (AllReadyH.nil)
        · go_simp
          refine hK2.out _ _ trivial (fun hHeld => ?_)
          clear hK2 K2
          (try simp only [Act.put, List.getElem_toArray, List.getElem_cons_succ, List.getElem_cons_zero, List.setIfInBounds_toArray, List.set_cons_zero, List.set_cons_succ])
          refine wpAnyH_take (i := 7) (v := ?_) rfl (by kernel_rfl) (by kernel_rfl) (by kernel_rfl) (fun _ _ _ h => h) (Or.inl ⟨by rfl, ?_⟩) (by with_reducible assumption) ?_
          rotate_left
          · intro w hSw; (try dsimp only at hSw); (try go_split_ands); go_simp; (try with_reducible rfl)
          (try simp only [Act.put, List.getElem_toArray, List.getElem_cons_succ, List.getElem_cons_zero, List.setIfInBounds_toArray, List.set_cons_zero, List.set_cons_succ])
          refine wpAnyH_take (i := 9) (v := ?_) rfl (by kernel_rfl) (by kernel_rfl) (by kernel_rfl) (fun _ _ _ h => h) (Or.inl ⟨by rfl, ?_⟩) (by with_reducible assumption) ?_
          rotate_left
          · intro w hSw; (try dsimp only at hSw); (try go_split_ands); go_simp; (try with_reducible rfl)
          (try simp only [Act.put, List.getElem_toArray, List.getElem_cons_succ, List.getElem_cons_zero, List.setIfInBounds_toArray, List.set_cons_zero, List.set_cons_succ])
          refine wpAnyH_ready (rs := [10]) (by kernel_rfl) (by simp) ?_
          refine AllReadyH.cons rfl (fun K2 hK2 => ?_) AllReadyH.nil
          go_simp
          go_at_call 15
          refine (feed_b (HF.out.1.below HW.out) (brk x ++ byB s) HXB.out (by have h1 := HCL.out; have h2 := brk_len x; have h3 := byB_length s; rw [List.length_append]; omega) (Nat.le_trans (Nat.le_of_lt HF.out.1.blk.lt) HW.out.size)).mono ?_
          rintro e1 We ⟨rfl, ve, hrde, hbe⟩
          have HG := Lib.hid (And.intro hrde ((HF.out.2.1.trans (HW.out.mono (Nat.le_of_lt HF.out.1.blk.lt))).trans hbe))
          clear hrde hbe
          refine hK2.out _ _ trivial (fun hHeld => ?_)
          clear hK2 K2
          (try simp only [Act.put, List.getElem_toArray, List.getElem_cons_succ, List.getElem_cons_zero, List.setIfInBounds_toArray, List.set_cons_zero, List.set_cons_succ])
          refine wpAnyH_done (by kernel_rfl) ?_ _
          refine HK.out _ _ ?_
          exact stops_14 (cap := cap) HF.out.2.2.2 HG.out.1 HG.out.2 HF.out.2.2.1 hn10 hsz HX.out

set_option maxRecDepth 100000 in
set_option maxHeartbeats 4000000 in
theorem stops_walk (v0 v1 v2 : Value) (D0 D1 D2 : D) (w : World) (r0 : RdV Try.prog w 47 v0 D0) (r1 : RdV Try.prog w 5 v1 D1) (r2 : RdV Try.prog w 9 v2 D2) :
    Calls Try.prog 8 #[v0, v1, v2] w fun e w' => e = .returned (.bool true) ∧ Below w.heap.size w w' := by
  obtain ⟨a, cap, ps, rfl, hlc, hcap, hps⟩ := rdv_pds r0
  obtain ⟨bi, rfl, -, hbw⟩ := r1.int Try.underlying5
  obtain ⟨c, rfl, hc⟩ := nat_of_u8 hbw
  obtain ⟨s, rfl, -, hsz⟩ := r2.string Try.underlying9
  unfold reachBytes at hsz
  clear r0 r1 r2 hbw
  obtain ⟨n, hn⟩ : ∃ n, ps.length = n := ⟨_, rfl⟩
  rw [hn] at hlc ⊢
  have HP0 := Lib.hid (And.intro hps hn)
  clear hps hn
  go_enter Try.func8, Try.ntmps8
  go_wp2_with fail
  refine (stands_any _).mono ?_
  rintro e W2 ⟨rfl, hb2⟩
  have HP2 := Lib.hid (And.intro (HP0.out.1.below hb2) hb2)
  clear hb2
  by_cases hq : 10 < n
  · have g1 : decide ((10 : Int) < (n : Int)) = true := by simp; omega
    have g2 : decide (10 < n) = true := by simp; omega
    clear hq
    go_wp2_with fail
    go_ret
    exact ⟨rfl, HP2.out.2⟩
  have g1 : decide ((10 : Int) < (n : Int)) = false := by simp; omega
  have g2 : decide (10 < n) = false := by simp; omega
  by_cases hq2 : 2000 < s.size
  · have g3 : decide ((2000 : Int) < (s.size : Int)) = true := by simp; omega
    have g4 : decide (2000 < s.size) = true := by simp; omega
    clear hq hq2
    go_wp2_with fail
    go_ret
    exact ⟨rfl, HP2.out.2⟩
  have g3 : decide ((2000 : Int) < (s.size : Int)) = false := by simp; omega
  have g4 : decide (2000 < s.size) = false := by simp; omega
  have hr5 := rd_new W2
  have hb5 : Below W2.heap.size W2 (W2.alloc (.cells #[.slice none 0 0, .bool false, .pointer none] 37)) := (Below.refl _ _).alloc (Nat.le_refl _) _
  have HR5 := Lib.hid (And.intro hr5 hb5)
  clear hr5 hb5
  go_upto_region 6 with fail
  clear g1 g2 g3 g4
  obtain ⟨rb, hrb⟩ : ∃ rb, rb = W2.heap.size := ⟨_, rfl⟩
  generalize (W2.alloc (.cells #[.slice none 0 0, .bool false, .pointer none] 37)) = W3 at *
  rw [← hrb] at HR5 ⊢
  have hle : w.heap.size ≤ rb := by rw [hrb]; exact HP2.out.2.size
  have HRB := Lib.hid (And.intro hrb hle)
  clear hrb hle
  go_upto_block 0 with fail
  go_cut [] (fun wr => ∃ v, IsRd wr rb rb v none (cat ps false false) false ∧ Below rb W2 wr ∧ mayTo ps n)
  case first =>
   as_aux_lemma =>
    go_wp2_with fail
    go_loopw [30] (fun i wr => ∃ (k : Nat) (v : Value), k ≤ n ∧ i = .int .i64 k ∧ IsRd wr rb rb v none (cat (ps.take k) false false) false ∧ Below rb W2 wr ∧ mayTo ps k) (fun i _ => n - (intOf i).toNat)
    case atStart => exact ⟨0, .slice none 0 0, by omega, rfl, HR5.out.1, HR5.out.2, fun i hi => by omega⟩
    case round =>
      obtain ⟨k, v, hk, rfl, hrd, hbr, hmay⟩ := hrel
      by_cases hlt : k < n
      · have hn := HP0.out.2
        have hpr := HP2.out.1.below (w' := wr) (HRB.out.1 ▸ hbr)
        obtain ⟨b, off, rfl, hbl, hrow⟩ := hpr.at_.resolve_left (by rintro rfl; simp at hn; omega)
        have hel := hpr.el k (by omega)
        have hrk := hrow k (by omega)
        have hsn := cat_snoc ps k (by omega) false false
        have hcl := cat_len ps (fun i hi => (HP0.out.1.el i hi).ok.wl) false false k (by omega)
        obtain ⟨e, he⟩ : ∃ e, e = ps.getD k {} := ⟨_, rfl⟩
        rw [← he] at hel hrk hsn
        have HE := Lib.hid (And.intro hel (And.intro hrk (And.intro hsn (And.intro he (And.intro hrd (And.intro hbr (And.intro hmay hcl)))))))
        clear hel hrk hsn he hrd hbr hmay hpr hrow hn hcl
        obtain ⟨sb, hsb⟩ : ∃ b, shortB e.p.ahs.length e.p.data.length = b := ⟨_, rfl⟩
        obtain ⟨mb, hmb⟩ : ∃ b, e.p.may = b := ⟨_, rfl⟩
        have HS := Lib.hid (And.intro hsb hmb)
        clear hsb hmb
        have hal : e.p.ahs.length ≤ 9223372036854775807 := by have h1 := HE.out.1.al; have h2 := HE.out.1.ac; omega
        have hdl : e.p.data.length ≤ 9223372036854775807 := by have h1 := HE.out.1.dl; have h2 := HE.out.1.dc; omega
        have HAD := Lib.hid (And.intro hal hdl)
        clear hal hdl
        have z1 : (k : Int) < (n : Int) := by omega
        go_upto_region 9 with (first
          | (refine load_pe (by rfl) (.tmp 32) (by rfl) b (off + k * 16) (by rfl) e (by exact HE.out.2.1) ?_)
          | (refine store_pb (by rfl) (.tmp 9) (.tmp 33) (by rfl) wr (by rfl) (by rfl) e.p e.aa e.ac e.da e.dc (by rfl) ?_; intro Wa hba hka; have HA := Lib.hid (And.intro hba hka); clear hba hka))
        go_wp2_with (refine load_pb (by rfl) (.tmp 9) (by rfl) wr.heap.size (by rfl) e.p e.aa e.ac e.da e.dc (by exact HA.out.2) ?_)
        refine (short_pd e.p e.aa e.da e.ac e.dc Wa HAD.out.1 HAD.out.2 sb HS.out.1).mono ?_
        rintro e1 Wb ⟨rfl, hbb⟩
        have HB : Hid (Below wr.heap.size wr Wb ∧ IsBlk Wb wr.heap.size (pdC e.p e.aa e.ac e.da e.dc) 28) := Lib.hid ⟨HA.out.1.trans (hbb.mono HA.out.1.size), HA.out.2.below hbb HA.out.2.lt⟩
        clear hbb HA
        cases sb with
        | false =>
          go_wp2_with fail
          go_ret
          exact ⟨rfl, (HP2.out.2.trans (HE.out.2.2.2.2.2.1.mono HRB.out.2)).trans (HB.out.1.mono (by have := HE.out.2.2.2.2.2.1.size; have h1 := HRB.out.1; have h2 := HP2.out.2.size; omega))⟩
        | true =>
          go_wp2_with (refine load_pb (by rfl) (.tmp 9) (by rfl) wr.heap.size (by rfl) e.p e.aa e.ac e.da e.dc (by exact HB.out.2) ?_)
          refine (may_pd e.p e.aa e.da e.ac e.dc Wb HAD.out.1 HAD.out.2 mb HS.out.2).mono ?_
          rintro e1 Wc ⟨rfl, hbc⟩
          have HC : Hid (Below wr.heap.size wr Wc ∧ IsBlk Wc wr.heap.size (pdC e.p e.aa e.ac e.da e.dc) 28) := Lib.hid ⟨HB.out.1.trans (hbc.mono HB.out.1.size), HB.out.2.below hbc HB.out.2.lt⟩
          clear hbc HB
          cases mb with
          | false =>
            go_wp2_with fail
            go_ret
            exact ⟨rfl, (HP2.out.2.trans (HE.out.2.2.2.2.2.1.mono HRB.out.2)).trans (HC.out.1.mono (by have := HE.out.2.2.2.2.2.1.size; have h1 := HRB.out.1; have h2 := HP2.out.2.size; omega))⟩
          | true =>
            go_upto_region 11 with fail
            have hen := PdIn.enc (HE.out.1.below HC.out.1) false false
            have HEN := Lib.hid hen
            clear hen
            go_wp2_with (refine load_pb (by rfl) (.tmp 9) (by rfl) wr.heap.size (by rfl) e.p e.aa e.ac e.da e.dc (by exact HC.out.2) ?_)
            refine HEN.out.mono ?_
            rintro e1 Wd ⟨vd, rfl, hod, hbd⟩
            obtain ⟨ad, cd, rfl, hbyd, -⟩ := hod.form
            have kc : (convert 23 9 (.slice ad (encP e.p false false).length cd)).run Try.prog Wd = .ok (.string (strB (encP e.p false false))) Wd := conv_bytes hbyd rfl
            have hrdd := (HE.out.2.2.2.2.1.below HC.out.1).below hbd
            have HD := Lib.hid (And.intro hrdd (And.intro (HC.out.1.trans (hbd.mono HC.out.1.size)) hod.2))
            clear hod hbd hbyd hrdd HC HEN
            go_wp2_with fail
            clear kc
            refine (feed_b HD.out.1 (encP e.p false false) HD.out.2.2 (by have h1 := HE.out.2.2.2.2.2.2.2; have h2 := enc_len e.p HE.out.1.ok.wl false false; omega) (Nat.le_of_lt HD.out.1.blk.lt)).mono ?_
            rintro e1 We ⟨rfl, ve, hrde, hbe⟩
            rw [← HE.out.2.2.1] at hrde
            have HF := Lib.hid (And.intro hrde ((HE.out.2.2.2.2.2.1.trans (HD.out.2.1.mono (Nat.le_of_lt HE.out.2.2.2.2.1.blk.lt))).trans hbe))
            clear hrde hbe HD
            go_wp2_with fail
            go_roundw
            case rel =>
              refine ⟨k + 1, ve, by omega, by go_num, HF.out.1, HF.out.2, fun i hi => ?_⟩
              by_cases hik : i = k
              · subst hik; rw [← HE.out.2.2.2.1]; exact HS.out.2
              · exact HE.out.2.2.2.2.2.2.1 i (by omega)
            case measure => simp [intOf]; omega
      · obtain rfl : k = n := by omega
        rw [← HP0.out.2, List.take_length] at hrd
        have HF := Lib.hid (And.intro hrd (And.intro hbr hmay))
        clear hrd hbr hmay hlt
        go_wp2_with fail
        go_meet
        exact ⟨v, HF.out.1, HF.out.2.1, HP0.out.2 ▸ HF.out.2.2⟩
  case rest =>
    obtain ⟨v5, hrd5, hb5, hmay⟩ := hcut
    rename_i K13 hK13
    refine hK13 _ _ ?_
    exact stops_13 ⟨HP0.out.2, HP2.out.1, HP2.out.2, HRB.out.1⟩ hrd5 hb5 hmay (by omega) (by omega) hc
end Go.Proofs.Ytaehaclmagnncaa
