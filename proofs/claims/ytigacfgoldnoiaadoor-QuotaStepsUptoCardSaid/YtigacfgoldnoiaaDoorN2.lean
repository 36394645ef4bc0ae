/- QuotaSteps: the walk. -/
import Derived.Test.YtigacfgoldnoiaaDoorN1
namespace Go.Proofs.YtigacfgoldnoiaaDoor
open Go Go.RowKit
set_option linter.unusedVariables false
set_option linter.unusedSimpArgs false
attribute [local go_sem] World.cell?_alloc_old World.frozen?_alloc_old

set_option maxHeartbeats 2000000 in
set_option maxRecDepth 100000 in
theorem steps_bad (limit batch workers : Int) (v u : Value) (w : World) (hu : Uses w) (hz : 0 < w.heap.size) (h : fitsB limit batch workers = false) :
    Calls Tryd.prog 3 #[.int .i64 limit, .int .i64 batch, .int .i64 workers, v, u] w fun e w' => e = .returned (.bool true) ∧ Moves [] w w' := by
  have hbg := Lib.hid (fun W hu hz => begins_any W hu hz)
  have hnw := Lib.hid (fun W => new_bad limit batch workers W h)
  have hft0 := fun W => rfits_any limit batch workers W
  rw [h] at hft0
  have hft := Lib.hid hft0
  clear h hft0
  go_enter Tryd.func3, Tryd.ntmps3
  go_wp2_with (first | (go_at_call 11; go_must (refine (hnw.out _).mono ?_; rintro e w1 ⟨rfl, hm1⟩)) | (go_at_call 12; go_must (refine (hft.out _).mono ?_; rintro e w2 ⟨rfl, rfl⟩)) | (go_at_call 13; go_must (refine (hbg.out _ (hu.moves hm1 hz (by simp)) (Nat.lt_of_lt_of_le hz hm1.size)).mono ?_; rintro e w2 ⟨rfl, hm2⟩)))
  go_ret
  exact ⟨rfl, hm1.trans hm2 (by simp)⟩

def m3loop1 : List Bool := [false, false, false, false, false, false, false, false, false, false, true, false, false, false, true, true, true, true, true, true, false, false, false, false, false, false, false, false, false, false, false, false, false, false, false, false, false, false, false, false, false, false, false, false, false, false, false, false, false, false, false, false, false, false, true, true, true, true, true, true, true, true, true, true, true, true, true, true, true, true, true, true, true, true, true, true, true, true, true, true, true, true, true, true, true, true, true, true, true, true, true, true, true, true, true, true, true, true, true, true, true, false, false, false, false, false, false, false, false, false, false, false, false, false, false, false, false, false, false, false, false, false, false, false, false, false, false, false, false, false, false, false, false, false, false, false, false, false, false, false, false, false, false, false, false, false, false, false, false, false, false, false, false, false, false, false, false, false, false, false, false, false, false, false, false, false, false, false, false, false, false, false, false, false, false, false, false, false, false, false, false, false, false, false, false, false, false, false, false, false, false, false]
def m3loop2 : List Bool := [false, false, false, false, false, false, false, false, false, false, true, false, false, false, false, false, false, false, false, false, true, true, true, true, true, true, false, false, false, false, false, false, false, false, false, false, false, false, false, false, false, false, false, false, false, false, false, false, false, false, false, false, false, false, false, false, false, false, false, false, false, false, false, false, false, false, false, false, false, false, false, false, false, false, false, false, false, false, false, false, false, false, false, false, false, false, false, false, false, false, false, false, false, false, false, false, false, false, false, false, false, false, false, false, true, true, true, true, true, true, true, true, true, true, true, true, true, true, true, true, true, true, true, true, true, true, true, true, true, true, true, true, true, true, true, true, true, true, true, true, true, true, true, true, true, true, true, true, true, true, true, true, true, true, true, true, true, true, true, true, true, true, true, true, true, true, true, true, true, true, true, true, true, true, true, true, true, true, true, true, true, true, true, true, true, false, false, false, false, false, false, false]
def m3cut : List Bool := [false, false, false, false, false, false, false, false, false, false, false, false, false, false, false, false, false, false, false, false, true, false, false, false, false, false, false, false, false, false, false, false, false, false, false, false, false, false, false, false, false, false, false, false, false, false, false, false, false, false, false, false, false, false, false, false, false, false, false, false, false, false, false, false, false, false, false, false, false, false, false, false, false, false, false, false, false, false, false, false, false, false, false, false, false, false, false, false, false, false, false, false, false, false, false, false, false, false, false, false, false, false, false, false, true, true, true, true, true, true, true, true, true, true, true, true, true, true, true, true, true, true, true, true, true, true, true, true, true, true, true, true, true, true, true, true, true, true, true, true, true, true, true, true, true, true, true, true, true, true, true, true, true, true, true, true, true, true, true, true, true, true, true, true, true, true, true, true, true, true, true, true, true, true, true, true, true, true, true, true, true, true, true, true, true, false, false, false, false, false, false, false]

set_option maxHeartbeats 4000000 in
set_option maxRecDepth 100000 in
theorem steps_good (limit batch n : Nat) (v u : Value) (ops : List (Int × Int)) (xs : List Int) (w : World) (hv : Rdo w v ops) (hb : ops.length ≤ 1048576) (hu' : Rdi w u xs) (hu : Uses w) (hz : 0 < w.heap.size) (hf : fitsB limit batch n = true) (hf1 : limit ≤ 1099511627776) (hf2 : batch ≤ 1048576) (hf3 : n ≤ 64) :
    Calls Tryd.prog 3 #[.int .i64 limit, .int .i64 batch, .int .i64 n, v, u] w fun e w' => e = .returned (.bool true) ∧ Moves [] w w' := by
  have hbg := Lib.hid (fun W hu hz => begins_any W hu hz)
  have hnw := Lib.hid (fun W hu hz => new_good limit batch n W hf hf1 hf2 hf3 hu hz)
  have hft0 := fun W => rfits_any limit batch n W
  rw [hf] at hft0
  have hft := Lib.hid hft0
  have hce := Lib.hid (fun W => cells_any limit n W hf1 hf3)
  have hb1 : 1 ≤ batch := by have := hf; simp only [fitsB, decide_eq_true_eq] at this; omega
  have hn1 : 1 ≤ n := by have := hf; simp only [fitsB, decide_eq_true_eq] at this; omega
  clear hf hft0
  obtain ⟨KA, kcap, rfl, hks⟩ := hv
  obtain ⟨A, cap, rfl, hlen, hxs⟩ := hu'
  obtain ⟨slen, hlenE⟩ : ∃ len, len = xs.length := ⟨_, rfl⟩
  obtain ⟨len, hklenE⟩ : ∃ len, len = ops.length := ⟨_, rfl⟩
  rw [← hlenE] at hlen hxs ⊢
  rw [← hklenE] at hb hks ⊢
  have HLEN := Lib.hid hlenE
  have HKLEN := Lib.hid hklenE
  have HKS := Lib.hid hks
  have HXS := Lib.hid hxs
  clear hlenE hklenE hks hxs
  obtain ⟨i32, hi32, hz32, hs32, hb32⟩ := info_parts info32
  obtain ⟨i41, hi41, hz41, hs41, hb41⟩ := info_parts info41
  go_enter Tryd.func3, Tryd.ntmps3
  go_wp2_with (first | (go_at_call 11; go_must (refine (hnw.out _ hu hz).mono ?_; rintro e w2 ⟨bq, bc, bw, rfl, gq, gc, gw, hQ, hm2⟩)) | (go_at_call 12; go_must (refine (hft.out _).mono ?_; rintro e w' ⟨rfl, rfl⟩)))
  have hs2 := hm2.size
  refine wp_loop_mix m3loop1 (fun k f wr => ∃ (i : Nat) (ps : List (Nat × Pn)) (ko : List (Nat × Nat)) (us : List Un), k = len - i ∧ i ≤ len ∧ ps.length ≤ i ∧ f 16 = .int .i64 (i : Nat) ∧ Kept batch n limit (limit :: List.replicate n 0) (ps.map (·.2)) (ko.map (·.1)) 0 ∧ (∀ q ∈ ps, q.2.nx.bare = true) ∧ Sims (ps.map (·.2)) us ∧
      Quo wr bq bc bw batch n (limit :: List.replicate n 0) ∧ wr.ownsRow w.heap.size 41 8 (f 14) ps.length (ucl us) ∧ wr.ownsRow w.heap.size 32 1 (f 15) ps.length (pvl (ps.map (·.1))) ∧ Fam wr w.heap.size bq (al ps) ∧ Moves [] w wr) len ?_ ?_
  · exact ⟨0, [], [], [], by omega, Nat.zero_le _, Nat.le_refl _, rfl, Kept.begin batch n limit, by simp, ⟨rfl, by simp⟩, hQ, ⟨rfl, .inl ⟨rfl, rfl⟩⟩, ⟨rfl, .inl ⟨rfl, rfl⟩⟩, ⟨fun k bp p h => by simp [al] at h, fun i j bp p q h => by simp [al] at h⟩, hm2⟩
  · rintro gk f wr hrel J1 K1 hJ1 hK1
    dsimp only [mix, m3loop1]
    generalize f 14 = a14 at hrel ⊢
    generalize f 15 = a15 at hrel ⊢
    generalize f 16 = a16 at hrel ⊢
    obtain ⟨i, ps, ko, us, rfl, hi, hpi, rfl, hK, hbare, hSims, hQr, hownU, hownL, hF, hmr⟩ := hrel
    by_cases hlt : i < len
    · obtain ⟨b, off, rfl, hbl, hcells⟩ := HKS.out (by omega)
      obtain ⟨q, hq⟩ : ∃ x, ops[i]? = some x := ⟨_, List.getElem?_eq_getElem (by have := HKLEN.out; omega)⟩
      obtain ⟨kd, wk⟩ := q
      have cx0 := hcells i kd wk hq
      have ck : wr.cell? ⟨b, off + i * 2, none⟩ = some (.int .u8 kd) := by rw [cell_kept hmr (by simp) hbl]; exact cx0.1
      have cw : wr.cell? ⟨b, off + (i * 2 + 1), none⟩ = some (.int .i64 wk) := by rw [cell_kept hmr (by simp) hbl]; exact cx0.2
      have cw' : wr.cell? ⟨b, off + i * 2 + 1, none⟩ = some (.int .i64 wk) := cw
      clear hcells cx0 hq
      have hi' : (i : Int) < (len : Int) := by omega
      have hwr := hmr.size
      have hbr : b < wr.heap.size := by omega
      have HSIM := Lib.hid hSims
      clear hSims
      rcases start_all bq n kd wk hn1 hf3 with ⟨k, x, rfl, rfl, hk1, hk3, hxn, hk0, hSt, hLoc, hKd⟩ | ⟨hno, hSt⟩
      · have hS := Lib.hid hSt
        have hRt0 := fun W => right_any n k x W
        rw [rightB_good hk1 hk3 hxn hk0] at hRt0
        have hRt := Lib.hid hRt0
        clear hSt hRt0
        go_wp2_with (first
          | (go_at_call 14; go_must (refine (hS.out _ ?hq).mono ?_; (case hq => exact hQr.q.cell 2); rintro e w3 ⟨bp, rfl, gbp, hP3, hm3⟩; (have hsz3 := hm3.size); (have ck3 : w3.cell? ⟨b, off + i * 2, none⟩ = some (.int .u8 k) := by rw [cell_kept hm3 (by simp) hbr]; exact ck); (have cw3 : w3.cell? ⟨b, off + (i * 2 + 1), none⟩ = some (.int .i64 x) := by rw [cell_kept hm3 (by simp) hbr]; exact cw); (have cw3' : w3.cell? ⟨b, off + i * 2 + 1, none⟩ = some (.int .i64 x) := cw3)))
          | (go_at_call 15; go_must (refine (hRt.out _).mono ?_; rintro e w4 ⟨rfl, hm4⟩; (have hsz4 := hm4.size); (have ck4 : w4.cell? ⟨b, off + i * 2, none⟩ = some (.int .u8 k) := by rw [cell_kept hm4 (by simp) (by omega)]; exact ck3); (have cw4 : w4.cell? ⟨b, off + (i * 2 + 1), none⟩ = some (.int .i64 x) := by rw [cell_kept hm4 (by simp) (by omega)]; exact cw3); (have cw4' : w4.cell? ⟨b, off + i * 2 + 1, none⟩ = some (.int .i64 x) := cw4); (have hm34 := hm3.trans hm4 (by simp)); (have hU4 := own_moves hownU hm34 (fun _ _ => by simp)); (have hL4 := own_moves hownL hm34 (fun _ _ => by simp))))
          | (at_builtin; refine wpList_append_own (o := ⟨some 96, _, _, _, _, _⟩) _ rfl _ _ 30 rfl w.heap.size 41 i41 (.agg #[.int .u8 0, .int .i64 0, .int .i64 0, .int .u64 0, .int .u64 0, .int .u64 0, .bool false, .int .i64 0]) 8 64 Tryd.underlying30 hi41 hz41 hs41 hb41 rfl (by decide) _ _ _ rfl (hU4.alloc _) ⟨w4.heap.size, 0, none⟩ 1 1 [.int .u8 k, .int .i64 x, .int .i64 0, .int .u64 0, .int .u64 0, .int .u64 0, .bool false, .int .i64 0] rfl rfl (cell_list_new _ _ _) (by simp [Value.oneCell']) (by unfold maxLen; omega) (by omega) (by simp only [World.size_alloc]; omega) ?_; intro v5 w5 hown5 hgrow5 _; obtain ⟨S, hmS, hSS⟩ := grown_moves (hU4.alloc _) hgrow5; clear hgrow5; (have hsz5 := hmS.size); (simp only [World.size_alloc] at hsz5); (have hL5 := own_moves (hL4.alloc (.cells #[.int .u8 k, .int .i64 x, .int .i64 0, .int .u64 0, .int .u64 0, .int .u64 0, .bool false, .int .i64 0] 41)) hmS (fun g hg hm => by obtain ⟨c1, h1⟩ := (own_has (hL4.alloc (.cells #[.int .u8 k, .int .i64 x, .int .i64 0, .int .u64 0, .int .u64 0, .int .u64 0, .bool false, .int .i64 0] 41)) g hg).2; obtain ⟨c2, h2⟩ := (hSS g hm).2; exact h1.ne_type h2 (by decide) rfl)))
          | (at_builtin; refine wpList_append_own (o := ⟨some 100, _, _, _, _, _⟩) _ rfl _ _ 31 rfl w.heap.size 32 i32 (.pointer none) 1 8 Tryd.underlying31 hi32 hz32 hs32 hb32 rfl (by decide) _ _ _ rfl (hL5.alloc _) ⟨w5.heap.size, 0, none⟩ 1 1 [.pointer (some ⟨bp, 0, none⟩)] rfl rfl (cell_one_new _ _ _) (by simp [Value.oneCell']) (by unfold maxLen; omega) (by omega) (by simp only [World.size_alloc]; omega) ?_; intro v6 w6 hown6 hgrow6 _; obtain ⟨S', hmS', hSS'⟩ := grown_moves (hL5.alloc _) hgrow6; clear hgrow6))
        refine Handed.intro (len - (i + 1)) (by omega) (hJ1 _ _ _ (by rfl) ?_)
        have hbare' : ∀ q ∈ ps ++ [(bp, st k x)], q.2.nx.bare = true := by
          intro q hq
          rcases List.mem_append.1 hq with h | h
          · exact hbare q h
          · simp only [List.mem_cons, List.not_mem_nil, or_false] at h
            subst h
            exact st_bare k x
        have hF4 := (hF.snoc hm3 gbp (by omega) hP3).still hm4
        have hF5 := (hF4.still ((Moves.refl [] _).alloc (.cells #[.int .u8 k, .int .i64 x, .int .i64 0, .int .u64 0, .int .u64 0, .int .u64 0, .bool false, .int .i64 0] 41))).apartS hbare' hmS hSS (by decide)
        have hF6 := (hF5.still ((Moves.refl [] _).alloc (.cells #[.pointer (some ⟨bp, 0, none⟩)] 32))).apartS hbare' hmS' hSS' (by decide)
        have hQ6 := ((((hQr.still hm34).alloc (.cells #[.int .u8 k, .int .i64 x, .int .i64 0, .int .u64 0, .int .u64 0, .int .u64 0, .bool false, .int .i64 0] 41)).apartS hmS hSS hz (by decide)).alloc (.cells #[.pointer (some ⟨bp, 0, none⟩)] 32)).apartS hmS' hSS' hz (by decide)
        have hU6 := own_moves (hown5.alloc (.cells #[.pointer (some ⟨bp, 0, none⟩)] 32)) hmS' (fun g hg hm => by obtain ⟨c1, h1⟩ := (own_has (hown5.alloc (.cells #[.pointer (some ⟨bp, 0, none⟩)] 32)) g hg).2; obtain ⟨c2, h2⟩ := (hSS' g hm).2; exact h1.ne_type h2 (by decide) rfl)
        have e3 := ucl_snoc us ⟨k, x, 0, 0, 0, 0, false, 0⟩
        have e4 : (⟨k, x, 0, 0, 0, 0, false, 0⟩ : Un).list = [.int .u8 k, .int .i64 x, .int .i64 0, .int .u64 0, .int .u64 0, .int .u64 0, .bool false, .int .i64 0] := rfl
        rw [e4] at e3
        rw [e3] at hU6
        rw [pvl_snoc, show (ps.map (·.1)) ++ [bp] = (ps ++ [(bp, st k x)]).map (·.1) by simp] at hown6
        refine ⟨i + 1, ps ++ [(bp, st k x)], ko ++ [(k, x)], us ++ [⟨k, x, 0, 0, 0, 0, false, 0⟩], rfl, by omega, by simp; omega, rfl, hK.snoc bp k x hLoc hKd, hbare', ?_, hQ6, ?_, ?_, hF6, ?_⟩
        · have := HSIM.out.snoc (st_sim k x hk1 hk3)
          simpa using this
        · rw [List.length_append]
          exact hU6
        · rw [List.length_append]
          exact hown6
        · exact (((hmr.trans hm34 (by simp)).alloc _).trans hmS (fun y hy => .inr (hSS y hy).1)).alloc _ |>.trans hmS' (fun y hy => .inr (hSS' y hy).1)
      · have hS := Lib.hid hSt
        have hRt0 := fun W => right_any n kd wk W
        rw [rightB_bad hno] at hRt0
        have hRt := Lib.hid hRt0
        clear hSt hRt0 hno
        go_wp2_with (first
          | (go_at_call 14; go_must (refine (hS.out _ ?hq).mono ?_; (case hq => exact hQr.q.cell 2); rintro e w3 ⟨rfl, hm3⟩; (have ck3 : w3.cell? ⟨b, off + i * 2, none⟩ = some (.int .u8 kd) := by rw [cell_kept hm3 (by simp) hbr]; exact ck); (have cw3 : w3.cell? ⟨b, off + (i * 2 + 1), none⟩ = some (.int .i64 wk) := by rw [cell_kept hm3 (by simp) hbr]; exact cw); (have cw3' : w3.cell? ⟨b, off + i * 2 + 1, none⟩ = some (.int .i64 wk) := cw3)))
          | (go_at_call 15; go_must (refine (hRt.out _).mono ?_; rintro e w4 ⟨rfl, hm4⟩; (have hm34 := hm3.trans hm4 (by simp)))))
        refine Handed.intro (len - (i + 1)) (by omega) (hJ1 _ _ _ (by rfl) ?_)
        exact ⟨i + 1, ps, ko, us, rfl, by omega, by omega, rfl, hK, hbare, HSIM.out, hQr.still hm34, own_moves hownU hm34 (fun _ _ => by simp), own_moves hownL hm34 (fun _ _ => by simp), hF.still hm34, hmr.trans hm34 (by simp)⟩
    · obtain rfl : i = len := by omega
      obtain ⟨UA, ucap, rfl⟩ := own_slice hownU
      obtain ⟨LA, lcap, rfl⟩ := own_slice hownL
      obtain ⟨m, hm⟩ : ∃ m, m = ps.length := ⟨_, rfl⟩
      rw [← hm] at hownU hownL hpi ⊢
      have HM := Lib.hid hm
      have HSIM := Lib.hid hSims
      clear hm hSims
      go_wp2_with (go_at_call 16; go_must (refine (hce.out _).mono ?_; rintro e w3 ⟨v3, rfl, hown3, hm3⟩))
      have hs3 := hm3.size
      have hwr := hmr.size
      have hQ3 := hQr.still hm3
      have hU3 := own_moves hownU hm3 (fun _ _ => by simp)
      have hL3 := own_moves hownL hm3 (fun _ _ => by simp)
      have hF3 := hF.still hm3
      have hM3 := hmr.trans hm3 (by simp)
      have hC3 := own_base (base' := w.heap.size) hown3 hwr
      refine wp_loop_mix m3loop2 (fun k f wx => ∃ (T i : Nat) (l : List Nat) (ps' : List (Nat × Pn)) (us' : List Un), k = slen - i ∧ i ≤ slen ∧ f 21 = .int .i64 (i : Nat) ∧ ps'.map (·.1) = ps.map (·.1) ∧ Kept batch n limit l (ps'.map (·.2)) (ko.map (·.1)) T ∧ Sims (ps'.map (·.2)) us' ∧
        Quo wx bq bc bw batch n l ∧ wx.ownsRow w.heap.size 39 1 (f 20) (n + 1) (wvs l) ∧ wx.ownsRow w.heap.size 41 8 (.slice UA m ucap) m (ucl us') ∧ wx.ownsRow w.heap.size 32 1 (.slice LA m lcap) m (pvl (ps.map (·.1))) ∧ Fam wx w.heap.size bq (al ps') ∧ Moves [] w wx) slen ?_ ?_
      · exact ⟨0, 0, _, ps, us, by omega, Nat.zero_le _, rfl, rfl, hK, HSIM.out, hQ3, hC3, hU3, hL3, hF3, hM3⟩
      · clear hU3 hL3 hF3 hM3 hC3 hQ3 hown3 hm3 hs3 hwr hbare hK hF hownU hownL hQr hmr HSIM hpi hi
        rintro gk f wr hrel J2 K2 hJ2 hK2'
        dsimp only [mix, m3loop2]
        generalize f 20 = a20 at hrel ⊢
        generalize f 21 = a21 at hrel ⊢
        obtain ⟨T, i, l, ps', us', rfl, hi, rfl, hps, hK, hSims, hQx, hownC, hownU, hownL, hFx, hmx⟩ := hrel
        have HSIM := Lib.hid hSims
        clear hSims
        by_cases hlt : i < slen
        · obtain ⟨b, off, rfl, hbl, hcells⟩ := HXS.out (by omega)
          obtain ⟨x, hx⟩ : ∃ x, xs[i]? = some x := ⟨_, List.getElem?_eq_getElem (by have := HLEN.out; omega)⟩
          have cx0 := hcells i x hx
          have cx : wr.cell? ⟨b, off + i, none⟩ = some (.int .i64 x) := by rw [cell_kept hmx (by simp) hbl]; exact cx0
          clear hcells cx0 hx
          have hi' : (i : Int) < (slen : Int) := by omega
          by_cases hx0 : x < 0
          · go_wp2_with fail
            refine Handed.intro (slen - (i + 1)) (by omega) (hJ2 _ _ _ (by rfl) ?_)
            exact ⟨T, i + 1, l, ps', us', rfl, by omega, rfl, hps, hK, HSIM.out, hQx, hownC, hownU, hownL, hFx, hmx⟩
          · by_cases hxm : (m : Int) ≤ x
            · go_wp2_with fail
              refine Handed.intro (slen - (i + 1)) (by omega) (hJ2 _ _ _ (by rfl) ?_)
              exact ⟨T, i + 1, l, ps', us', rfl, by omega, rfl, hps, hK, HSIM.out, hQx, hownC, hownU, hownL, hFx, hmx⟩
            · obtain ⟨k, rfl⟩ := Int.eq_ofNat_of_zero_le (show 0 ≤ x by omega)
              have hkm : k < m := by omega
              have hpl0 : ps'.length = m := by have h1 := congrArg List.length hps; simp only [List.length_map] at h1; rw [h1, ← HM.out]
              have hkl0 : ko.length = m := by have h1 := hK.klen; simp only [List.length_map] at h1; rw [h1, hpl0]
              have hul0 : us'.length = m := by have h1 := HSIM.out.1; simp only [List.length_map] at h1; rw [h1, hpl0]
              obtain ⟨⟨bp, p⟩, hk⟩ : ∃ q, ps'[k]? = some q := ⟨_, List.getElem?_eq_getElem (by omega)⟩
              obtain ⟨uu, huk⟩ : ∃ q, us'[k]? = some q := ⟨_, List.getElem?_eq_getElem (by omega)⟩
              have hbpk : (ps.map (·.1))[k]? = some bp := by rw [← hps]; simp [hk]
              obtain ⟨gl, capl, eL, hgl0, hgl, _, _, hcellL⟩ := own_at hownL (by omega)
              obtain ⟨gu, capu, eU, hgu0, hgu, _, _, hcellU⟩ := own_at hownU (by omega)
              obtain ⟨gc, capc, eC, hgc0, hgc, _, _, _⟩ := own_at hownC (by omega)
              simp only [Value.slice.injEq, true_and] at eL eU
              obtain ⟨rfl, rfl⟩ := eL
              obtain ⟨rfl, rfl⟩ := eU
              subst eC
              have cL : wr.cell? ⟨gl, k, none⟩ = some (.pointer (some ⟨bp, 0, none⟩)) := hcellL k _ (pvl_at hbpk)
              obtain ⟨hbase, hP⟩ := hFx.pend k bp p (al_get hk)
              have hkp : (ps'.map (·.2))[k]? = some p := by simp [hk]
              have hsim := HSIM.out.2 k p uu hkp huk
              have hkl : k < ps'.length := by omega
              have hKz := hK.each k p hkp
              have htot : l.sum + p.nx.hand ≤ limit := by
                have h1 := getD_le_sum ((ps'.map (·.2)).map (·.nx.hand)) k
                have h2 : ((ps'.map (·.2)).map (·.nx.hand)).getD k 0 = p.nx.hand := by simp [List.getD, hk]
                have h3 := hK.sum
                rw [h2] at h1
                omega
              have hwf := hKz.1.wf hb1 hf3 hf1 htot
              have hst0 := step_any bp bq bc bw batch n l p wr hP hQx hwf
              have hK2 : ∃ T2, Kept batch n limit (qstep batch n l p).1 ((ps'.set k (bp, (qstep batch n l p).2.1)).map (·.2)) (ko.map (·.1)) T2 := by
                rcases hK.step hb1 hkp with h1 | h1
                · exact ⟨_, by rw [List.map_set]; exact h1⟩
                · have e : qstep batch n l p = (l, p, ⟨0, 0, 0, 0, false⟩) := by
                    obtain ⟨nx, own, saw, left, ans⟩ := p
                    cases nx <;> first | rfl | cases h1
                  rw [e]
                  refine ⟨T, ?_⟩
                  have e2 : ps'.set k (bp, p) = ps' := by
                    obtain ⟨h3, h4⟩ := List.getElem?_eq_some_iff.1 hk
                    rw [← h4]
                    exact List.set_getElem_self h3
                  rw [e2]
                  exact hK
              have hqe : p.nx.ended = true → qstep batch n l p = (l, p, ⟨0, 0, 0, 0, false⟩) := by
                intro h1
                obtain ⟨nx, own, saw, left, ans⟩ := p
                cases nx <;> first | rfl | cases h1
              have hrs := fun he => rstep_any batch n l p uu hsim hK.len hwf hf2 he
              have hsx : l.length = n + 1 := hK.len
              have hRds : Rds wr (.slice (some ⟨gc, 0, none⟩) (n + 1) capc) l := Rds.of_own hownC (by omega) hsx
              obtain ⟨R, hR⟩ : ∃ R, R = qstep batch n l p := ⟨_, rfl⟩
              rw [← hR] at hst0 hK2 hqe
              simp only [← hR] at hrs
              clear hR
              obtain ⟨l2, p2, d⟩ := R
              obtain ⟨dk, dc, ds, dp, dok⟩ := d
              obtain ⟨T2, hK3⟩ := hK2
              simp only at hst0 hK3 hqe hrs
              obtain ⟨uk, uw, ua, us0, uh, um, ue, un⟩ := uu
              have cU : ∀ j v, (⟨uk, uw, ua, us0, uh, um, ue, un⟩ : Un).list[j]? = some v → wr.cell? ⟨gu, k * 8 + j, none⟩ = some v := fun j v hv => hcellU (k * 8 + j) v (ucl_at us' k j _ v huk hv)
              obtain ⟨cs77, hP77⟩ := hP.at
              have hLT : gl ∉ [bp, bw] := by
                obtain ⟨cs, h1⟩ := (own_has hownL gl rfl).2
                simp only [List.mem_cons, List.not_mem_nil, or_false, not_or]
                exact ⟨h1.ne_type hP77 (by decide), h1.ne_type hQx.m (by decide)⟩
              have hUT : gu ∉ [bp, bw] := by
                obtain ⟨cs, h1⟩ := (own_has hownU gu rfl).2
                simp only [List.mem_cons, List.not_mem_nil, or_false, not_or]
                exact ⟨h1.ne_type hP77 (by decide), h1.ne_type hQx.m (by decide)⟩
              have hCT : gc ∉ [bp, bw] := by
                obtain ⟨cs, h1⟩ := (own_has hownC gc rfl).2
                simp only [List.mem_cons, List.not_mem_nil, or_false, not_or]
                exact ⟨h1.ne_type hP77 (by decide), h1.ne_type hQx.m (by decide)⟩
              have hst := Lib.hid hst0
              have HSI := Lib.hid hsim
              have HQE := Lib.hid hqe
              have HRS := Lib.hid hrs
              have HK := Lib.hid hk
              have HUK := Lib.hid huk
              have HPS := Lib.hid hps
              have HKP := Lib.hid hkp
              have HPL := Lib.hid hpl0
              have HUL := Lib.hid hul0
              have HK3 := Lib.hid hK3
              have HSX := Lib.hid hsx
              have HCU := Lib.hid cU
              clear hst0 hsim hqe hrs hk huk hps hkp hpl0 hul0 hK3 hbpk hcellL hcellU hKz hwf hsx cU
              go_upto_if 136 with (first | (go_at_call 17; go_must (refine (hst.out).mono ?_; rintro e w5 ⟨rfl, hP5, hQ5, hm5⟩; simp only [Dd.val, did]; (have cU5 : ∀ j v, (⟨uk, uw, ua, us0, uh, um, ue, un⟩ : Un).list[j]? = some v → w5.cell? ⟨gu, k * 8 + j, none⟩ = some v := fun j v hv => by rw [cell_kept hm5 hUT hgu]; exact HCU.out j v hv); (have q0 : w5.cell? ⟨gu, k * 8, none⟩ = some (.int .u8 uk) := cU5 0 _ rfl); (have q1 : w5.cell? ⟨gu, k * 8 + 1, none⟩ = some (.int .i64 uw) := cU5 1 _ rfl); (have q2 : w5.cell? ⟨gu, k * 8 + 2, none⟩ = some (.int .i64 ua) := cU5 2 _ rfl); (have q3 : w5.cell? ⟨gu, k * 8 + 3, none⟩ = some (.int .u64 us0) := cU5 3 _ rfl); (have q4 : w5.cell? ⟨gu, k * 8 + 4, none⟩ = some (.int .u64 uh) := cU5 4 _ rfl); (have q5 : w5.cell? ⟨gu, k * 8 + 5, none⟩ = some (.int .u64 um) := cU5 5 _ rfl); (have q6 : w5.cell? ⟨gu, k * 8 + 6, none⟩ = some (.bool ue) := cU5 6 _ rfl); (have q7 : w5.cell? ⟨gu, k * 8 + 7, none⟩ = some (.int .i64 un) := cU5 7 _ rfl); clear cU5; (have n1 : ¬ gu = w5.heap.size := by have := hm5.size; omega); (have n2 : ¬ gu = w5.heap.size + 1 := by have := hm5.size; omega))))
              have hgu5 : gu < w5.heap.size := Nat.lt_of_lt_of_le hgu hm5.size
              have hgl5 : gl < w5.heap.size := Nat.lt_of_lt_of_le hgl hm5.size
              have hgc5 : gc < w5.heap.size := Nat.lt_of_lt_of_le hgc hm5.size
              have hM5 := hmx.trans hm5 (fun y hy => by
                simp only [List.mem_cons, List.not_mem_nil, or_false] at hy
                rcases hy with rfl | rfl
                · exact .inr hbase
                · exact .inr gw)
              have hs5 := hM5.size
              have hL5 := own_moves hownL hm5 (fun g hg => by cases hg; exact hLT)
              have hU5 := own_moves hownU hm5 (fun g hg => by cases hg; exact hUT)
              have hC5 := own_moves hownC hm5 (fun g hg => by cases hg; exact hCT)
              have hF5 := hFx.step (al_get HK.out) hm5 hQx.m hP5
              rw [al_set] at hF5
              have hqn : k < ps'.length := hkl
              have hps2 : (ps'.set k (bp, p2)).map (·.1) = ps.map (·.1) := by
                rw [← HPS.out, List.map_set]
                have h1 := HK.out
                apply List.ext_getElem?
                intro j
                rw [List.getElem?_set]
                split
                · rename_i e
                  subst e
                  simp only [List.length_map, hkl, if_true]
                  simp [h1]
                · rfl
              have HPS2 := Lib.hid hps2
              clear hps2
              refine wp_cut_mix m3cut (fun f wx => ∃ u2 : Un, Sim p2 u2 ∧ Quo wx bq bc bw batch n l2 ∧ wx.ownsRow w.heap.size 39 1 (f 20) (n + 1) (wvs l2) ∧ wx.ownsRow w.heap.size 41 8 (.slice (some ⟨gu, 0, none⟩) m ucap) m (ucl (us'.set k u2)) ∧ wx.ownsRow w.heap.size 32 1 (.slice (some ⟨gl, 0, none⟩) m lcap) m (pvl (ps.map (·.1))) ∧
                Has wx w5.heap.size 46 #[.int .u8 dk, .int .i64 dc, .int .u64 ds, .int .u64 dp, .bool dok] ∧ Has wx (w5.heap.size + 1) 46 #[.int .u8 dk, .int .i64 dc, .int .u64 ds, .int .u64 dp, .bool dok] ∧ Fam wx w.heap.size bq (al (ps'.set k (bp, p2))) ∧ Moves [] w wx) ?_ ?_
              · intro JC KC hJC hKC
                cases hue : ue with
                | true =>
                  subst hue
                  have he : p.nx.ended = true := HSI.out.ended.1.symm
                  have hq := HQE.out he
                  simp only [Prod.mk.injEq, Dd.mk.injEq] at hq
                  obtain ⟨rfl, rfl, rfl, rfl, rfl, rfl, rfl⟩ := hq
                  have HE := Lib.hid he
                  clear he
                  go_wp2_with fail
                  refine Met.intro (hJC _ _ (by rfl) ?_)
                  refine ⟨⟨uk, uw, ua, us0, uh, um, true, un⟩, HSI.out, (hQ5.alloc _).alloc _, (hC5.alloc _).alloc _, ?_, (hL5.alloc _).alloc _, (Has.new' rfl).alloc _, Has.new' (by simp), (hF5.still ((Moves.refl [] _).alloc _)).still ((Moves.refl [] _).alloc _), (hM5.alloc _).alloc _⟩
                  have e2 : us'.set k ⟨uk, uw, ua, us0, uh, um, true, un⟩ = us' := by
                    obtain ⟨h3, h4⟩ := List.getElem?_eq_some_iff.1 HUK.out
                    rw [← h4]
                    exact List.set_getElem_self h3
                  rw [e2]
                  exact (hU5.alloc _).alloc _
                | false =>
                  subst hue
                  have he : p.nx.ended = false := HSI.out.ended.1.symm
                  obtain ⟨u2, hS2, hcall0⟩ := HRS.out he
                  have hRd : Rds ((w5.alloc (.cells #[.int .u8 dk, .int .i64 dc, .int .u64 ds, .int .u64 dp, .bool dok] 46)).alloc (.cells #[.int .u8 0, .int .i64 0, .int .u64 0, .int .u64 0, .bool false] 46)) (.slice (some ⟨gc, 0, none⟩) (n + 1) capc) l := Rds.of_own ((hC5.alloc _).alloc _) (by omega) HSX.out
                  have hcall := hcall0 _ _ hRd
                  rw [HSX.out] at hcall
                  obtain ⟨xk, xw, xa, xs', xh, xm, xe, xn⟩ := u2
                  simp only [Un.val, uvl, Dd.val, did] at hcall
                  have HC := Lib.hid hcall
                  have HS2 := Lib.hid hS2
                  clear hcall hcall0 hRd hS2 he
                  go_wp2_with (go_at_call 18; go_must (refine (HC.out).mono ?_; rintro e w6 ⟨v6, rfl, hown6, hm6⟩; (have hs6 := hm6.size); (simp only [World.size_alloc] at hs6); (have U6 := own_moves ((hU5.alloc (.cells #[.int .u8 dk, .int .i64 dc, .int .u64 ds, .int .u64 dp, .bool dok] 46)).alloc (.cells #[.int .u8 0, .int .i64 0, .int .u64 0, .int .u64 0, .bool false] 46)) hm6 (fun _ _ => by simp)); (have cU6 : ∀ j v, (⟨uk, uw, ua, us0, uh, um, false, un⟩ : Un).list[j]? = some v → w6.cell? ⟨gu, k * 8 + j, none⟩ = some v := fun j v hv => by rw [cell_kept hm6 (by simp) (by simp; omega), cell_kept (Moves.alloc (Moves.refl [] _) _) (by simp) (by simp; omega), cell_kept (Moves.alloc (Moves.refl [] _) _) (by simp) hgu5, cell_kept hm5 hUT hgu]; exact HCU.out j v hv); (have r0 : w6.cell? ⟨gu, k * 8, none⟩ = some (.int .u8 uk) := cU6 0 _ rfl); (have rf0 : w6.frozen? ⟨gu, k * 8, none⟩ = false := own_frozen U6 _); (have r1 : w6.cell? ⟨gu, k * 8 + 1, none⟩ = some (.int .i64 uw) := cU6 1 _ rfl); (have rf1 : w6.frozen? ⟨gu, k * 8 + 1, none⟩ = false := own_frozen U6 _); (have r2 : w6.cell? ⟨gu, k * 8 + 2, none⟩ = some (.int .i64 ua) := cU6 2 _ rfl); (have rf2 : w6.frozen? ⟨gu, k * 8 + 2, none⟩ = false := own_frozen U6 _); (have r3 : w6.cell? ⟨gu, k * 8 + 3, none⟩ = some (.int .u64 us0) := cU6 3 _ rfl); (have rf3 : w6.frozen? ⟨gu, k * 8 + 3, none⟩ = false := own_frozen U6 _); (have r4 : w6.cell? ⟨gu, k * 8 + 4, none⟩ = some (.int .u64 uh) := cU6 4 _ rfl); (have rf4 : w6.frozen? ⟨gu, k * 8 + 4, none⟩ = false := own_frozen U6 _); (have r5 : w6.cell? ⟨gu, k * 8 + 5, none⟩ = some (.int .u64 um) := cU6 5 _ rfl); (have rf5 : w6.frozen? ⟨gu, k * 8 + 5, none⟩ = false := own_frozen U6 _); (have r6 : w6.cell? ⟨gu, k * 8 + 6, none⟩ = some (.bool false) := cU6 6 _ rfl); (have rf6 : w6.frozen? ⟨gu, k * 8 + 6, none⟩ = false := own_frozen U6 _); (have r7 : w6.cell? ⟨gu, k * 8 + 7, none⟩ = some (.int .i64 un) := cU6 7 _ rfl); (have rf7 : w6.frozen? ⟨gu, k * 8 + 7, none⟩ = false := own_frozen U6 _); (have D6 : Has w6 w5.heap.size 46 #[.int .u8 dk, .int .i64 dc, .int .u64 ds, .int .u64 dp, .bool dok] := hm6.has ((Has.new' rfl).alloc _) (by simp)); (have Z6 : Has w6 (w5.heap.size + 1) 46 #[.int .u8 0, .int .i64 0, .int .u64 0, .int .u64 0, .bool false] := hm6.has (Has.new' (by simp)) (by simp)); (have z6c := Z6.cell); (have z6f := Z6.frozen); clear cU6))
                  refine Met.intro (hJC _ _ (by rfl) ?_)
                  have hguT := (own_has U6 gu rfl).2
                  obtain ⟨csu, hgu6⟩ := hguT
                  have hgu5T : ∀ x t cs, Has w5 x t cs → t ≠ 41 → x ∉ [gu] := fun x t cs hx ht => by
                    obtain ⟨cs', h1⟩ := (own_has hU5 gu rfl).2
                    simp only [List.mem_cons, List.not_mem_nil, or_false]
                    exact hx.ne_type h1 ht
                  have key : ∀ Wf, Moves [gu] w5 Wf → Moves [gu, w5.heap.size + 1] w6 Wf → Wf.ownsRow w.heap.size 41 8 (.slice (some ⟨gu, 0, none⟩) m ucap) m (ucl (us'.set k ⟨xk, xw, xa, xs', xh, xm, xe, xn⟩)) → Has Wf (w5.heap.size + 1) 46 #[.int .u8 dk, .int .i64 dc, .int .u64 ds, .int .u64 dp, .bool dok] →
                      ∃ u2 : Un, Sim p2 u2 ∧ Quo Wf bq bc bw batch n l2 ∧ Wf.ownsRow w.heap.size 39 1 v6 (n + 1) (wvs l2) ∧ Wf.ownsRow w.heap.size 41 8 (.slice (some ⟨gu, 0, none⟩) m ucap) m (ucl (us'.set k u2)) ∧ Wf.ownsRow w.heap.size 32 1 (.slice (some ⟨gl, 0, none⟩) m lcap) m (pvl (ps.map (·.1))) ∧
                        Has Wf w5.heap.size 46 #[.int .u8 dk, .int .i64 dc, .int .u64 ds, .int .u64 dp, .bool dok] ∧ Has Wf (w5.heap.size + 1) 46 #[.int .u8 dk, .int .i64 dc, .int .u64 ds, .int .u64 dp, .bool dok] ∧ Fam Wf w.heap.size bq (al (ps'.set k (bp, p2))) ∧ Moves [] w Wf := by
                    intro Wf hA hB hU7 hZ7
                    refine ⟨⟨xk, xw, xa, xs', xh, xm, xe, xn⟩, HS2.out, ?_, ?_, hU7, ?_, ?_, hZ7, ?_, ?_⟩
                    · refine hQ5.moves hA ⟨hgu5T _ _ _ hQ5.q (by decide), hgu5T _ _ _ hQ5.c (by decide), ?_⟩ (hA.has hQ5.m (hgu5T _ _ _ hQ5.m (by decide))) rfl
                      simp only [List.mem_cons, List.not_mem_nil, or_false]
                      omega
                    · refine own_moves (own_base (base' := w.heap.size) hown6 (by simp; omega)) hB (fun g hg => ?_)
                      obtain ⟨cs, h1⟩ := (own_has hown6 g hg).2
                      simp only [List.mem_cons, List.not_mem_nil, or_false, not_or]
                      exact ⟨h1.ne_type hgu6 (by decide), h1.ne_type Z6 (by decide)⟩
                    · refine own_moves hL5 hA (fun g hg => ?_)
                      obtain ⟨cs, h1⟩ := (own_has hL5 g hg).2
                      exact hgu5T _ _ _ h1 (by decide)
                    · refine hB.has D6 ?_
                      simp only [List.mem_cons, List.not_mem_nil, or_false, not_or]
                      exact ⟨D6.ne_type hgu6 (by decide), by omega⟩
                    · refine hF5.moves hA (fun g t cs ht hg => hgu5T _ _ _ hg ?_)
                      rcases ht with e | e | e | e <;> subst e <;> decide
                    · exact hM5.trans hA (fun y hy => by simp only [List.mem_cons, List.not_mem_nil, or_false] at hy; subst hy; exact .inr hgu0)
                  have mA : Moves [gu] w5 w6 := (((Moves.refl [gu] w5).alloc _).alloc _).trans hm6 (fun y hy => by cases hy)
                  refine key _ ?_ ?_ ?_ ?_
                  · repeat (first | with_reducible exact mA | (with_reducible refine Moves.setOld ?_ ?_ _; rotate_left; (solve | simp)) | (with_reducible refine Moves.setNew ?_ ?_ _; rotate_left; (solve | (simp; done) | (simp; omega))) | fail)
                  · repeat (first | with_reducible exact Moves.refl _ _ | (with_reducible refine Moves.setOld ?_ ?_ _; rotate_left; (solve | simp)) | fail)
                  · refine own_far (own_far (own_far (own_far (own_far ?_ ?_) ?_) ?_) ?_) ?_
                    · exact own_put8 U6 HUL.out hkm ⟨xk, xw, xa, xs', xh, xm, xe, xn⟩
                    all_goals (simp only; omega)
                  · apply Has.of_eq
                    case h => repeat (first | with_reducible exact Z6 | with_reducible apply Has.put | (with_reducible apply Has.far'; (solve | (simp; omega))) | fail)
                    case e => rfl
              · intro f wc hcut
                dsimp only [mix, m3cut]
                generalize f 20 = a20 at hcut ⊢
                obtain ⟨⟨xk, xw, xa, xs', xh, xm, xe, xn⟩, hS2, hQ6, hC6, hU6, hL6, hD6, hZ6, hF6, hM6⟩ := hcut
                obtain ⟨es1, es2⟩ := hS2.ended
                simp only at es1 es2
                have hk2 : (ps'.set k (bp, p2))[k]? = some (bp, p2) := List.getElem?_set_self hkl
                have hP6 := (hF6.pend k bp p2 (al_get hk2)).2
                obtain ⟨gl', capl, eL, _, hglc, _, _, hcellL⟩ := own_at hL6 (by omega)
                obtain ⟨gu', capu, eU, _, hguc, _, _, hcellU⟩ := own_at hU6 (by omega)
                simp only [Value.slice.injEq, Option.some.injEq, Addr.mk.injEq, true_and, and_true] at eL eU
                obtain ⟨rfl, rfl⟩ := eL
                obtain ⟨rfl, rfl⟩ := eU
                have cL6 : wc.cell? ⟨gl, k, none⟩ = some (.pointer (some ⟨bp, 0, none⟩)) := hcellL k _ (pvl_at (by rw [← HPS2.out, List.getElem?_map, hk2]; rfl))
                have hu2 : (us'.set k ⟨xk, xw, xa, xs', xh, xm, xe, xn⟩)[k]? = some ⟨xk, xw, xa, xs', xh, xm, xe, xn⟩ := List.getElem?_set_self (by rw [HUL.out]; exact hkm)
                have cU6 : wc.cell? ⟨gu, k * 8 + 6, none⟩ = some (.bool xe) := hcellU (k * 8 + 6) _ (ucl_at _ k 6 _ _ hu2 rfl)
                have cU7 : wc.cell? ⟨gu, k * 8 + 7, none⟩ = some (.int .i64 xn) := hcellU (k * 8 + 7) _ (ucl_at _ k 7 _ _ hu2 rfl)
                have d6c := hD6.cell
                have z6c := hZ6.cell
                have hd0 : ∀ q, Calls Tryd.prog 19 #[.pointer (some ⟨bp, 0, none⟩)] (wc.drewN q) fun e w'' => e = .returned (.bool p2.nx.ended) ∧ ∃ m, w'' = wc.drewN m := fun q => (done_any bp bq p2 (wc.drewN q) hP6).mono fun e w' ⟨h1, h2⟩ => ⟨h1, q, h2.symm⟩
                have ha0 : ∀ q, Calls Tryd.prog 20 #[.pointer (some ⟨bp, 0, none⟩)] (wc.drewN q) fun e w'' => e = .returned (.int .i64 p2.answer) ∧ ∃ m, w'' = wc.drewN m := fun q => (answer_any bp bq p2 (wc.drewN q) hP6).mono fun e w' ⟨h1, h2⟩ => ⟨h1, q, h2.symm⟩
                obtain ⟨eb, heb⟩ : ∃ eb, eb = p2.nx.ended := ⟨_, rfl⟩
                obtain ⟨an, han⟩ : ∃ an, an = p2.answer := ⟨_, rfl⟩
                rw [← heb] at hd0 es1 ⊢
                rw [← han] at ha0 es2
                subst es1 es2
                have HD := Lib.hid hd0
                have HA := Lib.hid ha0
                have HS2 := Lib.hid hS2
                have HSU := Lib.hid (HSIM.out.set (k := k) hS2)
                clear hd0 ha0 hS2 heb han hk2 hu2 hcellL hcellU
                go_wp2_with fail
                go_quiet (first | (go_at_call 19; exact HD.out _) | (go_at_call 20; exact HA.out _))
                go_wp2_with fail
                refine Handed.intro (slen - (i + 1)) (by omega) (hJ2 _ _ _ (by rfl) ?_)
                refine ⟨T2, i + 1, l2, ps'.set k (bp, p2), us'.set k ⟨xk, xw, xa, xs', xh, xm, _, _⟩, rfl, by omega, rfl, HPS2.out, HK3.out, ?_, hQ6.drewN _, hC6, hU6, hL6, hF6.still ((Moves.refl [] _).drewN _), hM6.drewN _⟩
                rw [List.map_set]
                exact HSU.out
        · obtain rfl : i = slen := by omega
          have hls : l.length = n + 1 := hK.len
          have hRl := Rds.of_own hownC (by omega) hls
          have hAl := Lib.hid (all_any bq bc bw batch n l wr hQx hf3)
          have hg := Lib.hid (fun W hm => hbg.out W (hu.moves (hmx.trans (hm : Moves [] wr W) (by simp)) hz (by simp)) (Nat.lt_of_lt_of_le hz (hmx.trans (hm : Moves [] wr W) (by simp)).size))
          have HLS := Lib.hid hls
          have HK := Lib.hid hK
          clear hls hK hps
          go_wp2_with (first
            | (go_at_call 22; go_must (refine (hAl.out).mono ?_; rintro e w8 ⟨v8, rfl, hown8, hm8⟩; (have hwd := words_any v8 _ l l _ (Rds.of_own hown8 (by omega) HLS.out) (hRl.moves hm8 (fun _ _ => by simp)) rfl (by rw [HLS.out]; omega)); (have hdd : decide (l = l) = true := by simp); (rw [hdd] at hwd); (have HWD := Lib.hid hwd); clear hwd hdd))
            | (go_at_call 21; go_must (refine (HWD.out).mono ?_; rintro e w9 ⟨rfl, hm9⟩))
            | (go_at_call 13; go_must (refine (hg.out _ (hm8.trans hm9 (by simp))).mono ?_; rintro e w10 ⟨rfl, hm10⟩)))
          go_ret
          exact ⟨rfl, ((hmx.trans hm8 (by simp)).trans hm9 (by simp)).trans hm10 (by simp)⟩
end Go.Proofs.YtigacfgoldnoiaaDoor
