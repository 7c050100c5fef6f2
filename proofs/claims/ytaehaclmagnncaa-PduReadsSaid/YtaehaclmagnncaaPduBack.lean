-- slots 94
/-
  pdu: PduBack, walked.
-/
import Derived.Test.YtaehaclmagnncaaPduStops
namespace Go.Proofs.Ytaehaclmagnncaa
set_option linter.unusedVariables false
set_option linter.unusedSimpArgs false
open Go.RowKit
attribute [local go_sem ↓] Go.wp_at_zero Go.wp_at_succ

theorem IsBlk.range {w : World} {b : Nat} {cs : Array Value} {t : TypeId} (h : IsBlk w b cs t) : w.rangeAt b 0 cs.toList := fun j v hv => by
  rw [Nat.zero_add]
  exact h.cell j (by simpa using hv)
theorem extract_strB (l : List Nat) (i : Nat) (h : i < l.length) : (strB l).extract i (i + 1) = strB [l.getD i 0] := by
  apply ByteArray.ext
  rw [ByteArray.data_extract]
  apply Array.ext'
  rw [Array.toList_extract]
  unfold strB
  rw [strOfNums_data, strOfNums_data, List.extract_eq_take_drop, Nat.add_sub_cancel_left]
  apply List.ext_getElem?
  intro j
  rcases j with _ | j
  · simp [List.getElem?_drop, List.getD, h]
  · simp; omega
theorem getD_mem (l : List Nat) (m : Nat) (h : m < l.length) : l.getD m 0 ∈ l := by
  rw [List.getD_eq_getElem?_getD, List.getElem?_eq_getElem h, Option.getD_some]; exact List.getElem_mem h
theorem getD_append_right' (a r : List Nat) (i : Nat) : (a ++ r).getD (a.length + i) 0 = r.getD i 0 := by
  simp [List.getD, List.getElem?_append_right]
theorem take_snoc' (l : List Nat) (m : Nat) (h : m < l.length) : l.take m ++ [l.getD m 0] = l.take (m + 1) := by
  rw [List.take_succ_eq_append_getElem h]; simp [List.getD, List.getElem?_eq_getElem h]
theorem enc_lt (p : PD) (hp : p.Ok) (hm : p.may = true) (x d : Bool) : ∀ c ∈ encP p x d, c < 256 := by
  intro c hc
  rw [encP, if_pos hm] at hc
  have h1 : ∀ c ∈ headP p ++ p.ahs, c < 256 := fun c hc => by
    rcases List.mem_append.1 hc with hc | hc
    · exact headP_lt p hp hm c hc
    · exact hp.ahs c hc
  have h2 : ∀ c ∈ pad p.data, c < 256 := fun c hc => by
    unfold pad at hc
    rcases List.mem_append.1 hc with hc | hc
    · exact hp.data c hc
    · rw [(List.mem_replicate.1 hc).2]; decide
  rcases List.mem_append.1 hc with hc | hc
  · unfold headsP at hc
    rcases List.mem_append.1 hc with hc | hc
    · exact h1 c hc
    · cases x with
      | false => simp at hc
      | true => exact sumd_lt _ c hc
  · unfold dataP at hc
    split at hc
    · simp at hc
    · rcases List.mem_append.1 hc with hc | hc
      · exact h2 c hc
      · cases d with
        | false => simp at hc
        | true => exact sumd_lt _ c hc
/-- What a byte more leads to. -/
theorem part_or_whole (p : PD) (hp : p.Ok) (hm : p.may = true) (h d : Bool) (m : Nat) (hml : m < (encP p h d).length) :
    (m + 1 < (encP p h d).length ∧ findP ((encP p h d).take (m + 1)) h d = .nothing) ∨ (m + 1 = (encP p h d).length ∧ findP ((encP p h d).take (m + 1)) h d = .whole ∧ pduP ((encP p h d).take (m + 1)) h d = p ∧ restP ((encP p h d).take (m + 1)) h d = []) := by
  by_cases hq : m + 1 < (encP p h d).length
  · exact .inl ⟨hq, find_part p hp hm h d (m + 1) hq⟩
  · right
    have := find_whole p hp hm h d []
    rw [List.append_nil] at this
    rw [List.take_of_length_le (by omega)]
    exact ⟨by omega, this⟩
/-- The second loop's state: k are read, m bytes of the next one wait. -/
structure BackS (w W2 wr : World) (rb n : Nat) (ps : List PE) (h d : Bool) (k m : Nat) (v : Value) (tp : Option Addr) : Prop where
  hk : k ≤ n
  rd : IsRd wr rb rb v tp ((encP (ps.getD k {}).p h d).take m) false
  bel : Below rb W2 wr
  last : k = n → m = 0
  part : k < n → m < (encP (ps.getD k {}).p h d).length
theorem enc_pos (p : PD) (hw : p.words.length = 7) (hm : p.may = true) (h d : Bool) : 0 < (encP p h d).length := by
  rw [encP_length p hw hm, sizeP]; omega
theorem cat_at (ps : List PE) (h d : Bool) (k : Nat) (hk : k < ps.length) : cat ps h d = cat (ps.take k) h d ++ (encP (ps.getD k {}).p h d ++ cat (ps.drop (k + 1)) h d) := by
  rw [← cat_drop ps k hk, ← cat_split]

set_option maxRecDepth 100000 in
set_option maxHeartbeats 4000000 in
theorem back_14 {w W2 wr : World} {rb n cap : Nat} {a : Option Addr} {ps : List PE} {v : Value} {tp : Option Addr} {h d : Bool} (hP : StP w W2 rb n a ps) (hrd : IsRd wr rb rb v tp [] false) (hb : Below rb W2 wr) (hmay : mayTo ps n) (hn30 : n ≤ 30) {u3 u4 u5 u6 u9 u10 u11 u12 u13 u14 u15 u16 u17 u18 u19 u20 u21 u22 u23 u24 u25 u26 u27 u28 u29 u30 u31 u32 u33 u34 u35 u36 u37 u38 u39 u40 u41 u42 u43 u44 u45 u46 u47 u48 u49 u50 u51 u52 u53 u54 u55 u56 u57 u58 u59 u60 u61 u62 u63 u64 u65 u66 u67 u68 u69 u70 u71 u72 u73 u74 u75 u76 u77 u78 u79 u80 u81 u82 u83 u84 u85 u86 u87 u88 u89 u90 u91 u92 u93 : Value} :
    Code.wp Try.prog (restOf Try.f5 14) (bodyPost Try.prog Try.f5 (fun e w' => e = .returned (.bool true) ∧ Below w.heap.size w w')) ⟨(.slice a n cap :: .bool h :: .bool d :: u3 :: u4 :: u5 :: u6 :: .pointer (some ⟨rb, 0, none⟩) :: .string (strB (cat ps h d)) :: u9 :: u10 :: u11 :: u12 :: u13 :: u14 :: u15 :: u16 :: u17 :: u18 :: u19 :: u20 :: u21 :: u22 :: u23 :: u24 :: u25 :: u26 :: u27 :: u28 :: u29 :: u30 :: u31 :: u32 :: u33 :: u34 :: u35 :: u36 :: u37 :: u38 :: u39 :: u40 :: u41 :: u42 :: u43 :: u44 :: u45 :: u46 :: u47 :: u48 :: u49 :: u50 :: u51 :: u52 :: u53 :: u54 :: u55 :: u56 :: u57 :: u58 :: u59 :: u60 :: u61 :: u62 :: u63 :: u64 :: u65 :: u66 :: u67 :: u68 :: u69 :: u70 :: u71 :: u72 :: u73 :: u74 :: u75 :: u76 :: u77 :: u78 :: u79 :: u80 :: u81 :: u82 :: u83 :: u84 :: u85 :: u86 :: u87 :: u88 :: u89 :: u90 :: u91 :: u92 :: u93 :: []).toArray, []⟩ wr := by
  have hcl := cat_len ps (fun i hi => (hP.pds.el i hi).ok.wl) h d n (by rw [hP.len]; exact Nat.le_refl _)
  rw [← hP.len, List.take_length, hP.len] at hcl
  obtain ⟨T, hT⟩ : ∃ T, T = (cat ps h d).length := ⟨_, rfl⟩
  have hTs : (strB (cat ps h d)).size = T := by rw [strB_size, hT]
  have hTb : T ≤ 12000 := by omega
  have H0 : Hid (BackS w W2 wr rb n ps h d 0 0 v tp) := Lib.hid ⟨by omega, by rw [List.take_zero]; exact hrd, hb, fun _ => rfl, fun h0 => enc_pos _ (hP.pds.el 0 (by rw [hP.len]; exact h0)).ok.wl (hmay 0 h0) h d⟩
  have HH := Lib.hid (And.intro hP (And.intro hmay hT))
  clear hP hrd hb hmay hT hcl
  conv => arg 2; whnf
  refine wp_seq_k (fun K hK => ?_)
  have HK := Lib.hid hK
  clear hK
  go_wp2_with fail
  refine HK.out _ _ ?_
  refine wp_seq_k (fun K2 hK2 => ?_)
  have HK2 := Lib.hid hK2
  clear hK2
  go_wp2_with fail
  go_loopw [11, 46] (fun q i wx => ∃ (k m : Nat) (v : Value) (tp : Option Addr) (j : Nat), q = .int .i64 k ∧ i = .int .i64 j ∧ j = (cat (ps.take k) h d).length + m ∧ BackS w W2 wx rb n ps h d k m v tp) (fun _ i _ => T - (intOf i).toNat)
  case atStart => exact ⟨0, 0, v, tp, 0, rfl, rfl, rfl, H0.out⟩
  case round =>
    obtain ⟨k, m, v1, tp1, j, rfl, rfl, hj, hs⟩ := hrel
    by_cases hkn : k < n
    · have hat := cat_at ps h d k (by rw [HH.out.1.len]; exact hkn)
      have hml := hs.part hkn
      have hT := HH.out.2.2
      have hx : (cat ps h d).getD j 0 = (encP (ps.getD k {}).p h d).getD m 0 := by
        rw [hat, hj, getD_append_right', getD_left _ _ _ hml]
      have hjT : j < T := by rw [hT, hat, hj, List.length_append, List.length_append]; omega
      have hex := extract_strB (cat ps h d) j (by rw [← hT]; exact hjT)
      rw [hx] at hex
      have hsn := take_snoc' _ m hml
      have hin := HH.out.1.in_ hs.bel hkn rfl
      have hmk := HH.out.2.1 k hkn
      have hpw := part_or_whole _ hin.ok hmk h d m hml
      have hcs := cat_snoc ps k (by rw [HH.out.1.len]; exact hkn) h d
      have hlt := enc_lt _ hin.ok hmk h d
      have hel := enc_len _ hin.ok.wl h d
      obtain ⟨x, hxe⟩ : ∃ x, x = (encP (ps.getD k {}).p h d).getD m 0 := ⟨_, rfl⟩
      have hx256 : x < 256 := by rw [hxe]; exact hlt _ (getD_mem _ _ hml)
      rw [← hxe] at hex hsn
      have hsl : ∀ W, (Instr.slice 9 (.string (strB (cat ps h d))) (some (.int .i64 (j : Int))) (some (.int .i64 ((j : Int) + 1))) none).run Try.prog W = .ok (.string (strB [x])) W := fun W => by
        have := run_slice_string (P := Try.prog) W 9 (strB (cat ps h d)) .i64 .i64 (j : Int) ((j : Int) + 1) Try.underlying9 (by omega) (by omega) (by rw [hTs]; omega)
        rw [this, Int.toNat_natCast, show ((j : Int) + 1).toNat = j + 1 by omega, hex]
      clear hex
      obtain ⟨e, he⟩ : ∃ e, e = ps.getD k {} := ⟨_, rfl⟩
      have hpr := HH.out.1.pds.below (w' := wr) (by have := HH.out.1.hrb; subst this; exact hs.bel)
      obtain ⟨b, off, rfl, hbl, hrow⟩ := hpr.at_.resolve_left (by intro h0; have h1 := HH.out.1.len; rw [h0] at h1; simp at h1; omega)
      have hrk := hrow k (by rw [HH.out.1.len]; exact hkn)
      have hrd1 := hs.rd
      have hbe1 := hs.bel
      rw [← he] at hin hmk hpw hlt hel hsn hcs hrk hrd1 hml
      have HF := Lib.hid (And.intro hin (And.intro hmk (And.intro hsn (And.intro hcs (And.intro hrk (And.intro hbl (And.intro hbe1 (And.intro hel hj))))))))
      have HR := Lib.hid (And.intro hrd1 (fun W (hw : Below rb W2 W) => HH.out.1.in_ hw hkn he))
      have HEq := Lib.hid he
      have HB := Lib.hid (And.intro hml (And.intro hs.last hs.part))
      clear hin hmk hlt hsn hcs hrk hbl hbe1 hel hj hrd1 he hat hx hxe hs hpr hrow hT hml
      have z1 : (j : Int) < (T : Int) := by omega
      have hj1 : j + 1 ≤ 12000 := by omega
      have hLx : ∀ c ∈ [x], c < 256 := fun c hc => by rw [List.mem_singleton.1 hc]; exact hx256
      have HLx := Lib.hid hLx
      clear hLx
      rcases hpw with ⟨p1, p2⟩ | ⟨p1, p2, p3, p4⟩
      · have HP := Lib.hid (And.intro p1 p2)
        clear p1 p2
        go_wp2_with fail
        refine (feed_b HR.out.1 [x] HLx.out (by rw [List.length_take]; have := HF.out.2.2.2.2.2.2.2.1; simp; omega) (Nat.le_of_lt HR.out.1.blk.lt)).mono ?_
        rintro e1 Wa ⟨rfl, va, hrda, hba⟩
        rw [HF.out.2.2.1] at hrda
        have HA := Lib.hid (And.intro hrda (HF.out.2.2.2.2.2.2.1.trans hba))
        clear hrda hba
        go_wp2_with fail
        refine (next_b HA.out.1 (Nat.le_of_lt HA.out.1.blk.lt) (by rw [List.length_take]; have := HF.out.2.2.2.2.2.2.2.1; omega) h d .nothing 0 {} _ false rfl rfl HP.out.2 (nothing_told HP.out.2).1 (nothing_told HP.out.2).2).mono ?_
        rintro e1 Wb ⟨aa, ac, da, dc, v2, tp2, rfl, -, -, hrd2, hb2⟩
        have HB2 := Lib.hid (And.intro hrd2 (HA.out.2.trans hb2))
        clear hrd2 hb2 HA
        go_wp2_with (refine store_pb (by rfl) (.tmp 13) (.tmp 61) (by rfl) Wb (by rfl) (by rfl) {} aa ac da dc (by rfl) ?_; intro Wc hbc hkc; have HC := Lib.hid (And.intro (HB2.out.1.below hbc) (HB2.out.2.trans (hbc.mono (Nat.le_of_lt HB2.out.1.blk.lt)))); clear hbc hkc)
        go_roundw
        case rel => exact ⟨k, m + 1, v2, tp2, j + 1, rfl, by go_num, by have := HF.out.2.2.2.2.2.2.2.2; omega, ⟨by omega, HEq.out ▸ HC.out.1, HC.out.2, fun h0 => by omega, fun _ => HEq.out ▸ HP.out.1⟩⟩
        case measure => simp [intOf]; omega
      · have HP := Lib.hid (And.intro p1 (And.intro p2 (And.intro p3 p4)))
        clear p1 p2 p3 p4
        go_wp2_with fail
        refine (feed_b HR.out.1 [x] HLx.out (by rw [List.length_take]; have := HF.out.2.2.2.2.2.2.2.1; simp; omega) (Nat.le_of_lt HR.out.1.blk.lt)).mono ?_
        rintro e1 Wa ⟨rfl, va, hrda, hba⟩
        rw [HF.out.2.2.1] at hrda
        have HA := Lib.hid (And.intro hrda (HF.out.2.2.2.2.2.2.1.trans hba))
        clear hrda hba
        go_wp2_with fail
        refine (next_b HA.out.1 (Nat.le_of_lt HA.out.1.blk.lt) (by rw [List.length_take]; have := HF.out.2.2.2.2.2.2.2.1; omega) h d .whole 1 e.p [] false rfl rfl HP.out.2.1 HP.out.2.2.1 HP.out.2.2.2).mono ?_
        rintro e1 Wb ⟨aa, ac, da, dc, v2, tp2, rfl, hab, hdb, hrd2, hb2⟩
        have HB2 := Lib.hid (And.intro hrd2 (And.intro (HA.out.2.trans hb2) (And.intro hab hdb)))
        clear hrd2 hb2 HA hab hdb
        go_upto_region 21 with (refine store_pb (by rfl) (.tmp 13) (.tmp 61) (by rfl) Wb (by rfl) (by rfl) e.p aa ac da dc (by rfl) ?_; intro Wc hbc hkc; have HC := Lib.hid (And.intro (HB2.out.1.below hbc) (And.intro (HB2.out.2.1.trans (hbc.mono (Nat.le_of_lt HB2.out.1.blk.lt))) (And.intro (HB2.out.2.2.1.of_below hbc) (And.intro (HB2.out.2.2.2.of_below hbc) hkc)))); clear hbc hkc)
        have hkn2 : ¬ k = n := by omega
        have hkn3 : ((k : Int) == (n : Int)) = false := by simp; omega
        have z2 : (k : Int) < (n : Int) := by omega
        have z3 : (0 : Int) ≤ (k : Int) := by omega
        have HSL : Hid (∀ W, Below Wc.heap.size Wc W → W.rangeAt Wb.heap.size 0 (pdC e.p aa ac da dc).toList ∧ W.rangeAt b (off + k * 16) e.cells.toList) := Lib.hid (fun W hw => ⟨(HC.out.2.2.2.2.below hw HC.out.2.2.2.2.lt).range, fun q u hu => by
          have hb : Below rb W2 W := HC.out.2.1.trans (hw.mono (Nat.le_of_lt HC.out.1.blk.lt))
          have h1 := HH.out.1.pds.below (w' := W) (by have := HH.out.1.hrb; subst this; exact hb)
          obtain ⟨b', off', hbo, -, hr⟩ := h1.at_.resolve_left (by intro h0; have h2 := HH.out.1.len; rw [h0] at h2; simp at h2; omega)
          injection hbo with hbo
          injection hbo with hbo1 hbo2
          subst hbo1 hbo2
          have := hr k (by rw [HH.out.1.len]; exact hkn)
          rw [← HEq.out] at this
          exact this q u hu⟩)
        refine wp_region_held_drew (S := fun w' => Below Wc.heap.size Wc w') (by kernel_rfl) (by exact (Below.refl _ _).drew) (fun hHeld => ?_)
        refine wpAnyH_take (i := 0) (v := ?_) rfl (by kernel_rfl) (by kernel_rfl) (by kernel_rfl) (fun _ _ _ h => h) (Or.inl ⟨by rfl, ?_⟩) (by with_reducible assumption) ?_
        rotate_left
        · intro w hSw; (try dsimp only at hSw); (try go_split_ands); go_simp; (try with_reducible rfl)
        (try simp only [Act.put, List.getElem_toArray, List.getElem_cons_succ, List.getElem_cons_zero, List.setIfInBounds_toArray, List.set_cons_zero, List.set_cons_succ])
        refine wpAnyH_take (i := 1) (v := ?_) rfl (by kernel_rfl) (by kernel_rfl) (by kernel_rfl) (fun _ _ _ h => h) (Or.inl ⟨by rfl, ?_⟩) (by with_reducible assumption) ?_
        rotate_left
        · intro w hSw; (try dsimp only at hSw); (try go_split_ands); go_simp; (try with_reducible rfl)
        (try simp only [Act.put, List.getElem_toArray, List.getElem_cons_succ, List.getElem_cons_zero, List.setIfInBounds_toArray, List.set_cons_zero, List.set_cons_succ])
        refine wpAnyH_take (i := 2) (v := ?_) rfl (by kernel_rfl) (by kernel_rfl) (by kernel_rfl) (fun _ _ _ h => h) (Or.inl ⟨by rfl, ?_⟩) (by with_reducible assumption) ?_
        rotate_left
        · intro w hSw; (try dsimp only at hSw); (try go_split_ands); go_simp; (try with_reducible rfl)
        (try simp only [Act.put, List.getElem_toArray, List.getElem_cons_succ, List.getElem_cons_zero, List.setIfInBounds_toArray, List.set_cons_zero, List.set_cons_succ])
        refine wpAnyH_take (i := 3) (v := ?_) rfl (by kernel_rfl) (by kernel_rfl) (by kernel_rfl) (fun _ _ _ h => h) (Or.inl ⟨by rfl, ?_⟩) (by with_reducible assumption) ?_
        rotate_left
        · intro w hSw; (try dsimp only at hSw); (try go_split_ands); go_simp; (try with_reducible rfl)
        (try simp only [Act.put, List.getElem_toArray, List.getElem_cons_succ, List.getElem_cons_zero, List.setIfInBounds_toArray, List.set_cons_zero, List.set_cons_succ])
        refine wpAnyH_take (i := 4) (v := ?_) rfl (by kernel_rfl) (by kernel_rfl) (by kernel_rfl) (fun _ _ _ h => h) (Or.inl ⟨by rfl, ?_⟩) (by with_reducible assumption) ?_
        rotate_left
        · intro w hSw; (try dsimp only at hSw); (try go_split_ands); go_simp; (try with_reducible rfl)
        (try simp only [Act.put, List.getElem_toArray, List.getElem_cons_succ, List.getElem_cons_zero, List.setIfInBounds_toArray, List.set_cons_zero, List.set_cons_succ])
        refine wpAnyH_take (i := 5) (v := ?_) rfl (by kernel_rfl) (by kernel_rfl) (by kernel_rfl) (fun _ _ _ h => h) (Or.inl ⟨by rfl, ?_⟩) (by with_reducible assumption) ?_
        rotate_left
        · intro w hSw; (try dsimp only at hSw); (try go_split_ands); go_simp; (try with_reducible rfl)
        (try simp only [Act.put, List.getElem_toArray, List.getElem_cons_succ, List.getElem_cons_zero, List.setIfInBounds_toArray, List.set_cons_zero, List.set_cons_succ])
        refine wpAnyH_take (i := 6) (v := ?_) rfl (by kernel_rfl) (by kernel_rfl) (by kernel_rfl) (fun _ _ _ h => h) (Or.inl ⟨by rfl, ?_⟩) (by with_reducible assumption) ?_
        rotate_left
        · intro w hSw; (try dsimp only at hSw); (try go_split_ands); go_simp; (try with_reducible rfl)
        (try simp only [Act.put, List.getElem_toArray, List.getElem_cons_succ, List.getElem_cons_zero, List.setIfInBounds_toArray, List.set_cons_zero, List.set_cons_succ])
        refine wpAnyH_take (i := 7) (v := ?_) rfl (by kernel_rfl) (by kernel_rfl) (by kernel_rfl) (fun _ _ _ h => h) (Or.inl ⟨by rfl, ?_⟩) (by with_reducible assumption) ?_
        rotate_left
        · intro w hSw; (try dsimp only at hSw); (try go_split_ands); go_simp; (try with_reducible rfl)
        (try simp only [Act.put, List.getElem_toArray, List.getElem_cons_succ, List.getElem_cons_zero, List.setIfInBounds_toArray, List.set_cons_zero, List.set_cons_succ])
        refine wpAnyH_take (i := 8) (v := ?_) rfl (by kernel_rfl) (by kernel_rfl) (by kernel_rfl) (fun _ _ _ h => h) (Or.inl ⟨by rfl, ?_⟩) (by with_reducible assumption) ?_
        rotate_left
        · intro w hSw; (try dsimp only at hSw); (try go_split_ands); go_simp; (try with_reducible rfl)
        (try simp only [Act.put, List.getElem_toArray, List.getElem_cons_succ, List.getElem_cons_zero, List.setIfInBounds_toArray, List.set_cons_zero, List.set_cons_succ])
        refine wpAnyH_take (i := 9) (v := .agg (pdC e.p aa ac da dc).toList.toArray) rfl (by kernel_rfl) (by kernel_rfl) (by kernel_rfl) (fun _ _ _ h => h) (yieldsIf_load_mid (by rfl) 28 (.tmp 13) (by rfl) Wb.heap.size 0 (by rfl) (pdC e.p aa ac da dc).toList _ (fun w hS => (HSL.out w hS).1) Try.underlying28 rfl (by kernel_rfl)) (by with_reducible assumption) ?_
        (try simp only [Act.put, Array.toArray_toList, List.getElem_toArray, List.getElem_cons_succ, List.getElem_cons_zero, List.setIfInBounds_toArray, List.set_cons_zero, List.set_cons_succ])
        refine wpAnyH_take (i := 10) (v := ?_) rfl (by kernel_rfl) (by kernel_rfl) (by kernel_rfl) (fun _ _ _ h => h) (Or.inl ⟨by rfl, ?_⟩) (by with_reducible assumption) ?_
        rotate_left
        · intro w hSw; (try dsimp only at hSw); (try go_split_ands); go_simp; (try with_reducible rfl)
        (try simp only [Act.put, List.getElem_toArray, List.getElem_cons_succ, List.getElem_cons_zero, List.setIfInBounds_toArray, List.set_cons_zero, List.set_cons_succ])
        refine wpAnyH_take (i := 11) (v := ?_) rfl (by kernel_rfl) (by kernel_rfl) (by kernel_rfl) (fun _ _ _ h => h) (Or.inl ⟨by rfl, ?_⟩) (by with_reducible assumption) ?_
        rotate_left
        · intro w hSw; (try dsimp only at hSw); (try go_split_ands); go_simp; (try with_reducible rfl)
        (try simp only [Act.put, List.getElem_toArray, List.getElem_cons_succ, List.getElem_cons_zero, List.setIfInBounds_toArray, List.set_cons_zero, List.set_cons_succ])
        refine wpAnyH_take (i := 12) (v := ?_) rfl (by kernel_rfl) (by kernel_rfl) (by kernel_rfl) (fun _ _ _ h => h) (Or.inl ⟨by rfl, ?_⟩) (by with_reducible assumption) ?_
        rotate_left
        · intro w hSw; (try dsimp only at hSw); (try go_split_ands); go_simp; (try with_reducible rfl)
        (try simp only [Act.put, List.getElem_toArray, List.getElem_cons_succ, List.getElem_cons_zero, List.setIfInBounds_toArray, List.set_cons_zero, List.set_cons_succ])
        refine wpAnyH_take (i := 13) (v := .agg e.cells.toList.toArray) rfl (by kernel_rfl) (by kernel_rfl) (by kernel_rfl) (fun _ _ _ h => h) (yieldsIf_load_mid (by rfl) 28 (.tmp 77) (by rfl) b (off + k * 16) (by rfl) e.cells.toList _ (fun w hS => (HSL.out w hS).2) Try.underlying28 rfl (by kernel_rfl)) (by with_reducible assumption) ?_
        (try simp only [Act.put, Array.toArray_toList, List.getElem_toArray, List.getElem_cons_succ, List.getElem_cons_zero, List.setIfInBounds_toArray, List.set_cons_zero, List.set_cons_succ])
        refine wpAnyH_ready (rs := [14]) (by kernel_rfl) (by simp) ?_
        refine AllReadyH.cons rfl (fun K3 hK3 => ?_) AllReadyH.nil
        go_simp
        have hBel := Lib.hid hHeld
        go_at_call 18
        refine (same_pd e.p aa da e.aa e.da ac dc e.ac e.dc _ (HC.out.2.2.1.of_below hBel.out) (HC.out.2.2.2.1.of_below hBel.out) (HR.out.2 _ (HC.out.2.1.trans (hBel.out.mono (Nat.le_of_lt HC.out.1.blk.lt)))).ab (HR.out.2 _ (HC.out.2.1.trans (hBel.out.mono (Nat.le_of_lt HC.out.1.blk.lt)))).db).mono ?_
        rintro e1 Wd ⟨rfl, hbd⟩
        have hBn := Lib.hid (hBel.out.trans (hbd.mono hBel.out.size))
        clear hbd hBel
        refine hK3.out _ _ hBn.out (fun hHeld => ?_)
        clear hK3 K3
        (try simp only [Act.put, List.getElem_toArray, List.getElem_cons_succ, List.getElem_cons_zero, List.setIfInBounds_toArray, List.set_cons_zero, List.set_cons_succ])
        refine wpAnyH_take (i := 15) (v := ?_) rfl (by kernel_rfl) (by kernel_rfl) (by kernel_rfl) (fun _ _ _ h => h) (Or.inl ⟨by rfl, ?_⟩) (by with_reducible assumption) ?_
        rotate_left
        · intro w hSw; (try dsimp only at hSw); (try go_split_ands); go_simp; (try with_reducible rfl)
        (try simp only [Act.put, List.getElem_toArray, List.getElem_cons_succ, List.getElem_cons_zero, List.setIfInBounds_toArray, List.set_cons_zero, List.set_cons_succ])
        refine wpAnyH_take (i := 16) (v := ?_) rfl (by kernel_rfl) (by kernel_rfl) (by kernel_rfl) (fun _ _ _ h => h) (Or.inl ⟨by rfl, ?_⟩) (by with_reducible assumption) ?_
        rotate_left
        · intro w hSw; (try dsimp only at hSw); (try go_split_ands); go_simp; (try with_reducible rfl)
        (try simp only [Act.put, List.getElem_toArray, List.getElem_cons_succ, List.getElem_cons_zero, List.setIfInBounds_toArray, List.set_cons_zero, List.set_cons_succ])
        refine wpAnyH_done (by kernel_rfl) ?_ _
        clear hHeld
        have HD := Lib.hid (And.intro (HC.out.1.below hBn.out) (HC.out.2.1.trans (hBn.out.mono (Nat.le_of_lt HC.out.1.blk.lt))))
        clear hBn HSL
        go_wp2_with fail
        go_roundw
        case rel => exact ⟨k + 1, 0, v2, tp2, j + 1, by go_num, by go_num, by rw [HF.out.2.2.2.1, List.length_append]; have h1 := HF.out.2.2.2.2.2.2.2.2; have h2 := HP.out.1; omega, ⟨by omega, by rw [List.take_zero]; exact HD.out.1, HD.out.2, fun _ => rfl, fun h0 => enc_pos _ ((HH.out.1.pds.el (k + 1) (by rw [HH.out.1.len]; exact h0)).ok.wl) (HH.out.2.1 (k + 1) h0) h d⟩⟩
        case measure => simp [intOf]; omega
    · obtain rfl : k = n := by have := hs.hk; omega
      have hm0 := hs.last rfl
      subst hm0
      have hjT : j = T := by rw [hj, HH.out.2.2, ← HH.out.1.len, List.take_length]; rfl
      have hrd1 := hs.rd
      rw [List.take_zero] at hrd1
      have HB1 := Lib.hid (And.intro hrd1 (HH.out.1.end_ hs.bel (Below.refl _ _)))
      subst hjT
      clear hj hs hrd1 hkn
      go_wp2_with fail
      refine HK2.out _ _ ?_
      go_wp2_with fail
      refine (left_any HB1.out.1 0 rfl).mono ?_
      rintro e1 Wd ⟨rfl, rfl⟩
      go_wp2_with fail
      go_ret
      exact ⟨rfl, HB1.out.2⟩

set_option maxRecDepth 100000 in
set_option maxHeartbeats 4000000 in
theorem back_walk (v0 v1 v2 : Value) (D0 D1 D2 : D) (w : World) (r0 : RdV Try.prog w 47 v0 D0) (r1 : RdV Try.prog w 4 v1 D1) (r2 : RdV Try.prog w 4 v2 D2) :
    Calls Try.prog 5 #[v0, v1, v2] w fun e w' => e = .returned (.bool true) ∧ Below w.heap.size w w' := by
  obtain ⟨a, cap, ps, rfl, hlc, hcap, hps⟩ := rdv_pds r0
  obtain ⟨h, rfl, -⟩ := r1.bool Try.underlying4
  obtain ⟨d, rfl, -⟩ := r2.bool Try.underlying4
  clear r0 r1 r2
  obtain ⟨n, hn⟩ : ∃ n, ps.length = n := ⟨_, rfl⟩
  rw [hn] at hlc ⊢
  have HP0 := Lib.hid (And.intro hps hn)
  clear hps hn
  go_enter Try.func5, Try.ntmps5
  go_wp2_with fail
  refine (stands_any _).mono ?_
  rintro e W2 ⟨rfl, hb2⟩
  have HP2 := Lib.hid (And.intro (HP0.out.1.below hb2) hb2)
  clear hb2
  by_cases hq : 30 < n
  · have g1 : decide ((30 : Int) < (n : Int)) = true := by simp; omega
    have g2 : decide (30 < n) = true := by simp; omega
    clear hq
    go_wp2_with fail
    go_ret
    exact ⟨rfl, HP2.out.2⟩
  have g1 : decide ((30 : Int) < (n : Int)) = false := by simp; omega
  have g2 : decide (30 < n) = false := by simp; omega
  have hr5 := rd_new W2
  have hb5 : Below W2.heap.size W2 (W2.alloc (.cells #[.slice none 0 0, .bool false, .pointer none] 37)) := (Below.refl _ _).alloc (Nat.le_refl _) _
  have HR5 := Lib.hid (And.intro hr5 hb5)
  clear hr5 hb5
  go_upto_region 6 with fail
  clear g1 g2
  obtain ⟨rb, hrb⟩ : ∃ rb, rb = W2.heap.size := ⟨_, rfl⟩
  generalize (W2.alloc (.cells #[.slice none 0 0, .bool false, .pointer none] 37)) = W3 at *
  rw [← hrb] at HR5 ⊢
  have hle : w.heap.size ≤ rb := by rw [hrb]; exact HP2.out.2.size
  have HRB := Lib.hid (And.intro hrb hle)
  clear hrb hle
  go_upto_block 0 with fail
  go_cut [8] (fun s8 wr => s8 = .string (strB (cat ps h d)) ∧ IsRd wr rb rb (.slice none 0 0) none [] false ∧ Below rb W2 wr ∧ mayTo ps n)
  case first =>
   as_aux_lemma =>
    go_wp2_with fail
    go_loopw [8, 24] (fun q i wr => ∃ (k : Nat), k ≤ n ∧ q = .string (strB (cat (ps.take k) h d)) ∧ i = .int .i64 k ∧ IsRd wr rb rb (.slice none 0 0) none [] false ∧ Below rb W2 wr ∧ mayTo ps k) (fun _ i _ => n - (intOf i).toNat)
    case atStart => exact ⟨0, by omega, rfl, rfl, HR5.out.1, HR5.out.2, fun i hi => by omega⟩
    case round =>
      obtain ⟨k, hk, rfl, rfl, hrd, hbr, hmay⟩ := hrel
      by_cases hlt : k < n
      · have hn := HP0.out.2
        have hpr := HP2.out.1.below (w' := wr) (HRB.out.1 ▸ hbr)
        obtain ⟨b, off, rfl, hbl, hrow⟩ := hpr.at_.resolve_left (by rintro rfl; simp at hn; omega)
        have hel := hpr.el k (by omega)
        have hrk := hrow k (by omega)
        have hsn := cat_snoc ps k (by omega) h d
        have hcl := cat_len ps (fun i hi => (HP0.out.1.el i hi).ok.wl) h d k (by omega)
        obtain ⟨e, he⟩ : ∃ e, e = ps.getD k {} := ⟨_, rfl⟩
        rw [← he] at hel hrk hsn
        have hen := enc_len e.p hel.ok.wl h d
        have eb : strB (cat (ps.take k) h d) ++ strB (encP e.p h d) = strB (cat (ps.take (k + 1)) h d) := by rw [← strB_append, hsn]
        have hnz : ¬ 9223372036854775807 < (strB (cat (ps.take k) h d)).size + (strB (encP e.p h d)).size := by rw [strB_size, strB_size]; omega
        have HEB := Lib.hid (And.intro eb hnz)
        have HE := Lib.hid (And.intro hel (And.intro hrk (And.intro hsn (And.intro he (And.intro hrd (And.intro hbr (And.intro hmay hcl)))))))
        clear hel hrk hsn he hrd hbr hmay hpr hrow hn hcl eb hnz hen
        obtain ⟨sb, hsb⟩ : ∃ b, shortB e.p.ahs.length e.p.data.length = b := ⟨_, rfl⟩
        obtain ⟨mb, hmb⟩ : ∃ b, e.p.may = b := ⟨_, rfl⟩
        have HS := Lib.hid (And.intro hsb hmb)
        clear hsb hmb
        have hal : e.p.ahs.length ≤ 9223372036854775807 := by have h1 := HE.out.1.al; have h2 := HE.out.1.ac; omega
        have hdl : e.p.data.length ≤ 9223372036854775807 := by have h1 := HE.out.1.dl; have h2 := HE.out.1.dc; omega
        have HAD := Lib.hid (And.intro hal hdl)
        clear hal hdl
        have z1 : (k : Int) < (n : Int) := by omega
        go_upto_region 10 with (first
          | (refine load_pe (by rfl) (.tmp 26) (by rfl) b (off + k * 16) (by rfl) e (by exact HE.out.2.1) ?_)
          | (refine store_pb (by rfl) (.tmp 10) (.tmp 27) (by rfl) wr (by rfl) (by rfl) e.p e.aa e.ac e.da e.dc (by rfl) ?_; intro Wa hba hka; have HA := Lib.hid (And.intro hba hka); clear hba hka))
        go_wp2_with (refine load_pb (by rfl) (.tmp 10) (by rfl) wr.heap.size (by rfl) e.p e.aa e.ac e.da e.dc (by exact HA.out.2) ?_)
        refine (short_pd e.p e.aa e.da e.ac e.dc Wa HAD.out.1 HAD.out.2 sb HS.out.1).mono ?_
        rintro e1 Wb ⟨rfl, hbb⟩
        have HB : Hid (Below wr.heap.size wr Wb ∧ IsBlk Wb wr.heap.size (pdC e.p e.aa e.ac e.da e.dc) 28) := Lib.hid ⟨HA.out.1.trans (hbb.mono HA.out.1.size), HA.out.2.below hbb HA.out.2.lt⟩
        clear hbb HA
        cases sb with
        | false =>
          go_wp2_with fail
          go_ret
          exact ⟨rfl, (HP2.out.2.trans (HE.out.2.2.2.2.2.1.mono HRB.out.2)).trans (HB.out.1.mono (by have := HE.out.2.2.2.2.2.1.size; have h1 := HRB.out.1; have h2 := HP2.out.2.size; omega))⟩
        | true =>
          go_wp2_with (refine load_pb (by rfl) (.tmp 10) (by rfl) wr.heap.size (by rfl) e.p e.aa e.ac e.da e.dc (by exact HB.out.2) ?_)
          refine (may_pd e.p e.aa e.da e.ac e.dc Wb HAD.out.1 HAD.out.2 mb HS.out.2).mono ?_
          rintro e1 Wc ⟨rfl, hbc⟩
          have HC : Hid (Below wr.heap.size wr Wc ∧ IsBlk Wc wr.heap.size (pdC e.p e.aa e.ac e.da e.dc) 28) := Lib.hid ⟨HB.out.1.trans (hbc.mono HB.out.1.size), HB.out.2.below hbc HB.out.2.lt⟩
          clear hbc HB
          cases mb with
          | false =>
            go_wp2_with fail
            go_ret
            exact ⟨rfl, (HP2.out.2.trans (HE.out.2.2.2.2.2.1.mono HRB.out.2)).trans (HC.out.1.mono (by have := HE.out.2.2.2.2.2.1.size; have h1 := HRB.out.1; have h2 := HP2.out.2.size; omega))⟩
          | true =>
            go_upto_region 12 with fail
            have hen := PdIn.enc (HE.out.1.below HC.out.1) h d
            have HEN := Lib.hid hen
            clear hen
            go_wp2_with (refine load_pb (by rfl) (.tmp 10) (by rfl) wr.heap.size (by rfl) e.p e.aa e.ac e.da e.dc (by exact HC.out.2) ?_)
            refine HEN.out.mono ?_
            rintro e1 Wd ⟨vd, rfl, hod, hbd⟩
            obtain ⟨ad, cd, rfl, hbyd, -⟩ := hod.form
            have kc : (convert 23 9 (.slice ad (encP e.p h d).length cd)).run Try.prog Wd = .ok (.string (strB (encP e.p h d))) Wd := conv_bytes hbyd rfl
            have hrdd := (HE.out.2.2.2.2.1.below HC.out.1).below hbd
            have HD := Lib.hid (And.intro hrdd (HE.out.2.2.2.2.2.1.trans ((HC.out.1.trans (hbd.mono HC.out.1.size)).mono (Nat.le_of_lt HE.out.2.2.2.2.1.blk.lt))))
            clear hod hbd hbyd hrdd HC HEN
            have eb := HEB.out.1
            have hnz := HEB.out.2
            go_wp2_with fail
            clear kc eb hnz
            go_roundw
            case rel =>
              refine ⟨k + 1, by omega, rfl, by go_num, HD.out.1, HD.out.2, fun i hi => ?_⟩
              by_cases hik : i = k
              · subst hik; rw [← HE.out.2.2.2.1]; exact HS.out.2
              · exact HE.out.2.2.2.2.2.2.1 i (by omega)
            case measure => simp [intOf]; omega
      · obtain rfl : k = n := by omega
        rw [← HP0.out.2, List.take_length]
        rw [HP0.out.2]
        have HF := Lib.hid (And.intro hrd (And.intro hbr hmay))
        clear hrd hbr hmay hlt
        go_wp2_with fail
        go_meet
        exact ⟨rfl, HF.out.1, HF.out.2.1, HF.out.2.2⟩
  case rest =>
    obtain ⟨rfl, hrd5, hb5, hmay⟩ := hcut
    rename_i K13 hK13
    refine hK13 _ _ ?_
    exact back_14 ⟨HP0.out.2, HP2.out.1, HP2.out.2, HRB.out.1⟩ hrd5 hb5 hmay (by omega)
end Go.Proofs.Ytaehaclmagnncaa
