/- QuotaPlain: the walk. -/
import Derived.Test.YtigacfgoldnoiaaDoorD1
namespace Go.Proofs.YtigacfgoldnoiaaDoor
open Go.RowKit
set_option linter.unusedVariables false
set_option linter.unusedSimpArgs false
attribute [local go_sem] World.cell?_alloc_old World.frozen?_alloc_old

/-- A slice that came in and reads as these numbers. -/
def Rdi (w : World) (v : Value) (xs : List Int) : Prop :=
  ∃ A cap, v = .slice A xs.length cap ∧ xs.length ≤ 9223372036854775807 ∧ (0 < xs.length → ∃ b off, A = some ⟨b, off, none⟩ ∧ b < w.heap.size ∧ ∀ (i : Nat) (x : Int), xs[i]? = some x → w.cell? ⟨b, off + i, none⟩ = some (.int .i64 x))

theorem Quo.other {a w : World} {bq bc bw batch n bx : Nat} {l : List Nat} (h : Quo a bq bc bw batch n l) (hm : Moves [bx] a w) (h1 : bx ≠ bq) (h2 : bx ≠ bc) (h3 : bx ≠ bw) (h4 : bx ≠ 0) : Quo w bq bc bw batch n l :=
  h.moves hm (by simp [Ne.symm h1, Ne.symm h2, Ne.symm h4]) (hm.has h.m (by simp [Ne.symm h3])) rfl
theorem Quo.still {a w : World} {bq bc bw batch n : Nat} {l : List Nat} (h : Quo a bq bc bw batch n l) (hm : Moves [] a w) : Quo w bq bc bw batch n l :=
  h.moves hm (by simp) (hm.has h.m (by simp)) rfl

theorem start_out (bq bc bw batch n : Nat) (l : List Nat) (kind worker : Int) (W : World) (hQ : Quo W bq bc bw batch n l) (hn : n ≤ 64) (h : ¬ (0 ≤ worker ∧ worker < n ∧ (kind = 1 ∨ kind = 2 ∨ (kind = 3 ∧ worker = 0)))) :
    Calls Tryd.prog 14 #[.pointer (some ⟨bq, 0, none⟩), .agg #[.int .u8 kind, .int .i64 worker]] W fun e w' => e = .returned (.tuple #[.pointer none, .int .i64 2]) ∧ Moves [] W w' := by
  have hq := hQ.q2
  by_cases h0 : worker < 0
  · exact start_neg bq n kind worker _ hq h0
  · by_cases h1 : (n : Int) ≤ worker
    · exact start_high bq n kind worker _ hq (by omega) h1
    · by_cases h2 : kind = 3
      · subst h2
        have h3 : worker ≠ 0 := fun e => h ⟨by omega, by omega, .inr (.inr ⟨rfl, e⟩)⟩
        exact start_left bq n worker _ hq (by omega) (by omega) (by simpa using h3)
      · refine start_other bq n kind worker _ hq (by omega) (by omega) ?_ ?_ ?_
        · exact beq_eq_false_iff_ne.2 (fun e => h ⟨by omega, by omega, .inl e⟩)
        · exact beq_eq_false_iff_ne.2 (fun e => h ⟨by omega, by omega, .inr (.inl e)⟩)
        · exact beq_eq_false_iff_ne.2 h2

theorem Takes.le {p : Pn} (h : Takes p) (he : p.nx.ended = true) : p.ans ≤ 1 := by
  obtain ⟨nx, own, saw, left, ans⟩ := p
  cases nx <;> simp only [Nx.ended, Bool.false_eq_true] at he
  exact h
theorem step_end (bp bq : Nat) (p : Pn) (w : World) (hP : PendAt w bp bq p) (he : p.nx.ended = true) :
    Calls Tryd.prog 17 #[.pointer (some ⟨bp, 0, none⟩)] w fun e w' => e = .returned (.tuple #[did 0 0 0 0 false, .bool true]) ∧ PendAt w' bp bq p ∧ Moves [] w w' := by
  obtain ⟨nx, own, saw, left, ans⟩ := p
  cases nx <;> simp only [Nx.ended, Bool.false_eq_true] at he
  obtain ⟨f, h1, h2⟩ := hP
  simp only [NxAt] at h2
  subst h2
  refine (step_fin bp bq own saw left ans w h1).mono ?_
  rintro e w' ⟨rfl, hm⟩
  exact ⟨rfl, ⟨_, hm.has h1 (by simp), rfl⟩, hm⟩
theorem PendAt.keepEnd {S : List Nat} {a w : World} {bp bq : Nat} {p : Pn} (h : PendAt a bp bq p) (he : p.nx.ended = true) (hm : Moves S a w) (hb : bp ∉ S) : PendAt w bp bq p := by
  obtain ⟨nx, own, saw, left, ans⟩ := p
  cases nx <;> simp only [Nx.ended, Bool.false_eq_true] at he
  obtain ⟨f, h1, h2⟩ := h
  exact ⟨f, hm.has h1 hb, h2⟩
theorem PendAt.allocEnd {a : World} {bp bq : Nat} {p : Pn} (h : PendAt a bp bq p) (he : p.nx.ended = true) (o : Obj) : PendAt (a.alloc o) bp bq p := h.keepEnd he ((Moves.refl [] a).alloc o) (by simp)
theorem done_end (bp bq : Nat) (p : Pn) (he : p.nx.ended = true) (w : World) (hP : PendAt w bp bq p) :
    Calls Tryd.prog 19 #[.pointer (some ⟨bp, 0, none⟩)] w fun e w' => e = .returned (.bool true) ∧ w = w' := by
  have := done_any bp bq p w hP
  rwa [he] at this
theorem answer_end (bp bq : Nat) (p : Pn) (he : p.nx.ended = true) (w : World) (hP : PendAt w bp bq p) :
    Calls Tryd.prog 20 #[.pointer (some ⟨bp, 0, none⟩)] w fun e w' => e = .returned (.int .i64 p.ans) ∧ w = w' := by
  have := answer_any bp bq p w hP
  rwa [show p.answer = p.ans by simp [Pn.answer, he]] at this

set_option maxHeartbeats 2000000 in
set_option maxRecDepth 100000 in
theorem plain_bad (limit batch workers : Int) (v : Value) (kind worker : Int) (w : World) (hu : Uses w) (hz : 0 < w.heap.size) (h : fitsB limit batch workers = false) :
    Calls Tryd.prog 9 #[.int .i64 limit, .int .i64 batch, .int .i64 workers, v, .agg #[.int .u8 kind, .int .i64 worker]] w fun e w' => e = .returned (.bool true) ∧ Moves [] w w' := by
  have hbg := Lib.hid (fun W hu hz => begins_any W hu hz)
  have hnw := Lib.hid (fun W => new_bad limit batch workers W h)
  clear h
  go_enter Tryd.func9, Tryd.ntmps9
  go_wp2_with (first | (go_at_call 13; go_must (refine (hbg.out _ (hu.alloc hz _) (by simp)).mono ?_; rintro e w1 ⟨rfl, hm1⟩)) | (go_at_call 11; have _t := hm1; go_must (refine (hnw.out _).mono ?_; rintro e w2 ⟨rfl, hm2⟩; (have hm1 := hm1.trans hm2 (by simp)))))
  go_ret
  exact ⟨rfl, ((Moves.refl [] w).alloc _).trans hm1 (by simp)⟩

set_option maxHeartbeats 4000000 in
set_option maxRecDepth 100000 in
theorem plain_badop (limit batch n : Nat) (v : Value) (xs : List Int) (kind worker : Int) (w : World) (hv : Rdi w v xs) (hu : Uses w) (hz : 0 < w.heap.size) (hf : fitsB limit batch n = true) (hf1 : limit ≤ 1099511627776) (hf2 : batch ≤ 1048576) (hf3 : n ≤ 64) (hop : ¬ (0 ≤ worker ∧ worker < n ∧ (kind = 1 ∨ kind = 2 ∨ (kind = 3 ∧ worker = 0)))) :
    Calls Tryd.prog 9 #[.int .i64 limit, .int .i64 batch, .int .i64 n, v, .agg #[.int .u8 kind, .int .i64 worker]] w fun e w' => e = .returned (.bool true) ∧ Moves [] w w' := by
  have hbg := Lib.hid (fun W hu hz => begins_any W hu hz)
  have hnw := Lib.hid (fun W hu hz => new_good limit batch n W hf hf1 hf2 hf3 hu hz)
  have hb1 : 1 ≤ batch := by have := hf; simp only [fitsB, decide_eq_true_eq] at this; omega
  have hn1 : 1 ≤ n := by have := hf; simp only [fitsB, decide_eq_true_eq] at this; omega
  clear hf
  obtain ⟨A, cap, rfl, hlen, hxs⟩ := hv
  obtain ⟨len, hlenE⟩ : ∃ len, len = xs.length := ⟨_, rfl⟩
  rw [← hlenE] at hlen hxs ⊢
  have HLEN := Lib.hid hlenE
  clear hlenE
  go_enter Tryd.func9, Tryd.ntmps9
  have tok1 : True := trivial
  go_wp2_with (first | (go_at_call 13; go_must (refine (hbg.out _ (hu.alloc hz _) (by simp)).mono ?_; rintro e w1 ⟨rfl, hm1⟩)) | (go_at_call 11; have _t := tok1; go_must (refine (hnw.out _ ((hu.alloc hz _).moves hm1 (by simp) (by simp)) (Nat.lt_of_lt_of_le (by simp) hm1.size)).mono ?_; rintro e w2 ⟨bqa, bca, bwa, rfl, gqa, gca, gwa, hQa, hm2⟩; clear tok1 _t)))
  go_wp2_with (go_at_call 11; go_must (refine (hnw.out _ hQa.uses (by have := hQa.q.lt; omega)).mono ?_; rintro e w3 ⟨bqb, bcb, bwb, rfl, gqb, gcb, gwb, hQb, hm3⟩))
  have hs1 : w.heap.size < w1.heap.size := Nat.lt_of_lt_of_le (by simp) hm1.size
  have hbox1 : Has w1 w.heap.size 37 #[.int .u8 kind, .int .i64 worker] := hm1.has (Has.new' rfl) (by simp)
  have hbox3 : Has w3 w.heap.size 37 #[.int .u8 kind, .int .i64 worker] := hm3.has (hm2.has hbox1 (by simp)) (by simp)
  have hm03 : Moves [] w w3 := ((((Moves.refl [] w).alloc _).trans hm1 (by simp)).trans hm2 (by simp)).trans hm3 (by simp)
  have hQa3 := hQa.still hm3
  have lqa := hQa.q.lt
  have lca := hQa.c.lt
  have lwa := hQa.m.lt
  have hsum0 : (limit :: List.replicate n 0).sum ≤ 1099511627776 := by simp; exact hf1
  go_loopw [15] (fun i wr => ∃ k l', k ≤ len ∧ i = .int .i64 (k : Nat) ∧ Quo wr bqa bca bwa batch n l' ∧ Quo wr bqb bcb bwb batch n l' ∧ l'.sum ≤ 1099511627776 ∧ Moves [] w wr ∧ Has wr w.heap.size 37 #[.int .u8 kind, .int .i64 worker]) (fun i _ => len - (intOf i).toNat)
  case atStart => exact ⟨0, _, Nat.zero_le _, rfl, hQa3, hQb, hsum0, hm03, hbox3⟩
  case round =>
    obtain ⟨k, l', hk, rfl, hQa', hQb', hsum', hm', hbox'⟩ := hrel
    by_cases hlt : k < len
    · obtain ⟨b, off, rfl, hbl, hcells⟩ := hxs (by omega)
      obtain ⟨x, hx⟩ : ∃ x, xs[k]? = some x := ⟨_, List.getElem?_eq_getElem (by have := HLEN.out; omega)⟩
      have cx := hcells k x hx
      have cx' : wr.cell? ⟨b, off + k, none⟩ = some (.int .i64 x) := by
        simp only [World.cell?] at cx ⊢
        rw [hm'.block b hbl (by simp)]
        exact cx
      have hta := Lib.hid (take_any bqa bca bwa batch n l' x wr hQa' hf3 hb1 hsum')
      have tok2 : True := trivial
      clear hcells cx hx
      have hi : (k : Int) < (len : Int) := by omega
      go_wp2_with (go_at_call 23; have _t := tok2; go_must (refine (hta.out).mono ?_; rintro e w4 ⟨rfl, hQa4, hm4⟩; clear tok2 _t; (have hQb4 := hQb'.other hm4 (by omega) (by omega) (by omega) (Ne.symm (by have := hQa'.apart_w; omega))); (have cx4 : w4.cell? ⟨b, off + k, none⟩ = some (.int .i64 x) := (hm4.cellB b (off + k) (Nat.lt_of_lt_of_le hbl hm'.size) (by omega)).trans cx')))
      have htb := Lib.hid (take_any bqb bcb bwb batch n l' x w4 hQb4 hf3 hb1 hsum')
      go_wp2_with (go_at_call 23; go_must (refine (htb.out).mono ?_; rintro e w5 ⟨rfl, hQb5, hm5⟩))
      go_roundw
      case rel =>
        have hQa5 := hQa4.other hm5 (by omega) (by omega) (by omega) (by have := hQb4.apart_w; omega)
        have h6 := (takeZ_inv (worker := x) hb1 hQa'.len).2
        refine ⟨k + 1, _, by omega, by go_num, hQa5, hQb5, by omega, (hm'.trans hm4 (fun y hy => by simp at hy; subst hy; right; omega)).trans hm5 (fun y hy => by simp at hy; subst hy; right; omega), ?_⟩
        exact hm5.has (hm4.has hbox' (by simp; omega)) (by simp; omega)
      case measure => simp [intOf]; omega
    · obtain rfl : k = len := by omega
      have hst := Lib.hid (start_out bqa bca bwa batch n l' kind worker wr hQa' hf3 hop)
      have cb := hbox'.cell
      go_wp2_with (go_at_call 14; go_must (refine (hst.out).mono ?_; rintro e w6 ⟨rfl, hm6⟩))
      go_ret
      exact ⟨rfl, hm'.trans hm6 (fun x hx => by cases hx)⟩

set_option maxHeartbeats 4000000 in
set_option maxRecDepth 100000 in
theorem plain_take (limit batch n : Nat) (v : Value) (xs : List Int) (worker : Nat) (w : World) (hv : Rdi w v xs) (hu : Uses w) (hz : 0 < w.heap.size) (hf : fitsB limit batch n = true) (hf1 : limit ≤ 1099511627776) (hf2 : batch ≤ 1048576) (hf3 : n ≤ 64) (hw : worker < n) :
    Calls Tryd.prog 9 #[.int .i64 limit, .int .i64 batch, .int .i64 n, v, .agg #[.int .u8 1, .int .i64 worker]] w fun e w' => e = .returned (.bool true) ∧ Moves [] w w' := by
  have hbg := Lib.hid (fun W hu hz => begins_any W hu hz)
  have hnw := Lib.hid (fun W hu hz => new_good limit batch n W hf hf1 hf2 hf3 hu hz)
  have hb1 : 1 ≤ batch := by have := hf; simp only [fitsB, decide_eq_true_eq] at this; omega
  have hn1 : 1 ≤ n := by have := hf; simp only [fitsB, decide_eq_true_eq] at this; omega
  clear hf
  obtain ⟨A, cap, rfl, hlen, hxs⟩ := hv
  obtain ⟨len, hlenE⟩ : ∃ len, len = xs.length := ⟨_, rfl⟩
  rw [← hlenE] at hlen hxs ⊢
  have HLEN := Lib.hid hlenE
  clear hlenE
  go_enter Tryd.func9, Tryd.ntmps9
  have tok1 : True := trivial
  go_wp2_with (first | (go_at_call 13; go_must (refine (hbg.out _ (hu.alloc hz _) (by simp)).mono ?_; rintro e w1 ⟨rfl, hm1⟩)) | (go_at_call 11; have _t := tok1; go_must (refine (hnw.out _ ((hu.alloc hz _).moves hm1 (by simp) (by simp)) (Nat.lt_of_lt_of_le (by simp) hm1.size)).mono ?_; rintro e w2 ⟨bqa, bca, bwa, rfl, gqa, gca, gwa, hQa, hm2⟩; clear tok1 _t)))
  go_wp2_with (go_at_call 11; go_must (refine (hnw.out _ hQa.uses (by have := hQa.q.lt; omega)).mono ?_; rintro e w3 ⟨bqb, bcb, bwb, rfl, gqb, gcb, gwb, hQb, hm3⟩))
  have hs1 : w.heap.size < w1.heap.size := Nat.lt_of_lt_of_le (by simp) hm1.size
  have hbox1 : Has w1 w.heap.size 37 #[.int .u8 1, .int .i64 worker] := hm1.has (Has.new' rfl) (by simp)
  have hbox3 : Has w3 w.heap.size 37 #[.int .u8 1, .int .i64 worker] := hm3.has (hm2.has hbox1 (by simp)) (by simp)
  have hm03 : Moves [] w w3 := ((((Moves.refl [] w).alloc _).trans hm1 (by simp)).trans hm2 (by simp)).trans hm3 (by simp)
  have hQa3 := hQa.still hm3
  have lqa := hQa.q.lt
  have lca := hQa.c.lt
  have lwa := hQa.m.lt
  have hsum0 : (limit :: List.replicate n 0).sum ≤ 1099511627776 := by simp; exact hf1
  go_loopw [15] (fun i wr => ∃ k l', k ≤ len ∧ i = .int .i64 (k : Nat) ∧ Quo wr bqa bca bwa batch n l' ∧ Quo wr bqb bcb bwb batch n l' ∧ l'.sum ≤ 1099511627776 ∧ Moves [] w wr ∧ Has wr w.heap.size 37 #[.int .u8 1, .int .i64 worker]) (fun i _ => len - (intOf i).toNat)
  case atStart => exact ⟨0, _, Nat.zero_le _, rfl, hQa3, hQb, hsum0, hm03, hbox3⟩
  case round =>
    obtain ⟨k, l', hk, rfl, hQa', hQb', hsum', hm', hbox'⟩ := hrel
    by_cases hlt : k < len
    · obtain ⟨b, off, rfl, hbl, hcells⟩ := hxs (by omega)
      obtain ⟨x, hx⟩ : ∃ x, xs[k]? = some x := ⟨_, List.getElem?_eq_getElem (by have := HLEN.out; omega)⟩
      have cx := hcells k x hx
      have cx' : wr.cell? ⟨b, off + k, none⟩ = some (.int .i64 x) := by
        simp only [World.cell?] at cx ⊢
        rw [hm'.block b hbl (by simp)]
        exact cx
      have hta := Lib.hid (take_any bqa bca bwa batch n l' x wr hQa' hf3 hb1 hsum')
      have tok2 : True := trivial
      clear hcells cx hx
      have hi : (k : Int) < (len : Int) := by omega
      go_wp2_with (go_at_call 23; have _t := tok2; go_must (refine (hta.out).mono ?_; rintro e w4 ⟨rfl, hQa4, hm4⟩; clear tok2 _t; (have hQb4 := hQb'.other hm4 (by omega) (by omega) (by omega) (Ne.symm (by have := hQa'.apart_w; omega))); (have cx4 : w4.cell? ⟨b, off + k, none⟩ = some (.int .i64 x) := (hm4.cellB b (off + k) (Nat.lt_of_lt_of_le hbl hm'.size) (by omega)).trans cx')))
      have htb := Lib.hid (take_any bqb bcb bwb batch n l' x w4 hQb4 hf3 hb1 hsum')
      go_wp2_with (go_at_call 23; go_must (refine (htb.out).mono ?_; rintro e w5 ⟨rfl, hQb5, hm5⟩))
      go_roundw
      case rel =>
        have hQa5 := hQa4.other hm5 (by omega) (by omega) (by omega) (by have := hQb4.apart_w; omega)
        have h6 := (takeZ_inv (worker := x) hb1 hQa'.len).2
        refine ⟨k + 1, _, by omega, by go_num, hQa5, hQb5, by omega, (hm'.trans hm4 (fun y hy => by simp at hy; subst hy; right; omega)).trans hm5 (fun y hy => by simp at hy; subst hy; right; omega), ?_⟩
        exact hm5.has (hm4.has hbox' (by simp; omega)) (by simp; omega)
      case measure => simp [intOf]; omega
    · obtain rfl : k = len := by omega
      have hS := Lib.hid (StartIs.take (bq := bqa) hw hf3)
      obtain ⟨wa, hwa⟩ : ∃ wa, wa = wr := ⟨_, rfl⟩
      subst hwa
      have cb := hbox'.cell
      have q2 := hQa'.q2
      have lqb := hQb'.q.lt
      have lcb := hQb'.c.lt
      have lwb := hQb'.m.lt
      go_wp2_with (go_at_call 14; go_must (refine (hS.out _ q2).mono ?_; rintro e w6 ⟨bp, rfl, gbp, hP6, hm6⟩))
      have hQa6 := hQa'.still hm6
      have hQb6 := hQb'.still hm6
      have hbox6 := hm6.has hbox' (by simp)
      have hm06 : Moves [] w w6 := hm'.trans hm6 (fun x hx => by cases hx)
      obtain ⟨F, hF⟩ : ∃ F, F = qtake batch n l' worker := ⟨_, rfl⟩
      obtain ⟨K, hK⟩ : ∃ K, K = 5 := ⟨_, rfl⟩
      have hend : F.2.nx.ended = true := by
        rw [hF]
        exact qiter_ends batch n l'.sum (5) l' ⟨.look, worker + 1, 0, 0, 0⟩ trivial (loc_look hw) hb1 hQa'.len (by simp [Nx.hand]) (by simp [toGo])
      have hF0 : qiter batch n K l' ⟨.look, worker + 1, 0, 0, 0⟩ = F := by rw [hF, hK]; rfl
      have hfi := qiter_inv batch n l'.sum hb1 K l' ⟨.look, worker + 1, 0, 0, 0⟩ (loc_look hw) hQa'.len (by simp [Nx.hand])
      rw [hF0] at hfi
      simp only [Nx.hand, Nat.add_zero] at hfi
      have HE := Lib.hid hend
      have HF := Lib.hid hF
      have HFI := Lib.hid hfi
      clear hend hF hfi
      have hKn : K ≤ n + 4 := by omega
      clear hK
      go_loopw [17] (fun i wr => ∃ j g l2 p2, j + g = K ∧ i = .int .i64 (j : Nat) ∧ qiter batch n g l2 p2 = F ∧ Still l2 p2 ∧ Loc n l'.sum p2 ∧ l2.sum + p2.nx.hand ≤ l'.sum ∧ l2.length = n + 1 ∧ PendAt wr bp bqa p2 ∧ Quo wr bqa bca bwa batch n l2 ∧ Quo wr bqb bcb bwb batch n l' ∧ Moves [] w wr ∧ Has wr w.heap.size 37 #[.int .u8 1, .int .i64 worker]) (fun i _ => K - (intOf i).toNat)
      case atStart => exact ⟨0, K, _, _, by omega, rfl, hF0, trivial, (loc_look hw), by simp [Nx.hand], hQa'.len, hP6, hQa6, hQb6, hm06, hbox6⟩
      case round =>
        obtain ⟨j, g, l2, p2, hjg, rfl, hF2, hst2, hloc2, htot2, hlen2, hP2, hQa2, hQb2, hm2r, hbox2⟩ := hrel
        have HF2 := Lib.hid hF2
        have HL2 := Lib.hid hlen2
        clear hF2 hlen2
        have hj : (j : Int) ≤ (n : Int) + 4 := by omega
        have hjb : j ≤ 68 := by omega
        have hdone := done_any bp bqa p2 wr hP2
        have hbpa := gbp
        have hsz06 := hm'.size
        cases he : p2.nx.ended with
        | false =>
          rw [he] at hdone
          have HD := Lib.hid hdone
          have hstep := Lib.hid (step_any bp bqa bca bwa batch n l2 p2 wr hP2 hQa2 (hloc2.wf hb1 hf3 hsum' htot2))
          have HE' := Lib.hid he
          clear hdone he
          go_wp2_with (first | (go_at_call 19; refine (HD.out).mono ?_; rintro e w' ⟨rfl, rfl⟩) | (go_at_call 17; go_must (refine (hstep.out).mono ?_; rintro e w8 ⟨rfl, hP8, hQa8, hm8⟩; simp only [Dd.val, did])))
          cases g with
          | zero =>
            exfalso
            have h1 := HF2.out
            simp only [qiter] at h1
            have h2 := HE.out
            rw [← h1] at h2
            rw [HE'.out] at h2
            cases h2
          | succ g =>
            have h3 := qstep_total batch n l'.sum l2 p2 HL2.out hloc2 hb1
            have hsm : p2.nx = .sum → p2.left ≤ n := fun e => by have := hloc2.2.2; rw [e] at this; exact this.1
            go_roundw
            case rel =>
              have apb := hQb2.apart_w
              refine ⟨j + 1, g, _, _, by omega, by go_num, ?_, (qstep_still batch n l2 p2 hst2 hsm HE'.out).1, qstep_loc batch n l'.sum l2 p2 hloc2 hb1 (by omega), by omega, by rw [qstep_length, HL2.out], hP8, hQa8, ?_, ?_, ?_⟩
              · rw [← HF2.out, qiter_succ _ _ _ _ _ HE'.out]
              · exact hQb2.moves hm8 (by simp; omega) (hm8.has hQb2.m (by simp; omega)) rfl
              · exact hm2r.trans hm8 (fun y hy => by simp at hy; right; omega)
              · exact hm8.has hbox2 (by simp; omega)
            case measure => simp [intOf]; omega
        | true =>
          clear hdone
          have hfin := HF2.out.symm.trans (qiter_ended batch n g l2 p2 he)
          have HD := Lib.hid (fun W h => done_end bp bqa p2 he W h)
          have HN := Lib.hid (fun W h => answer_end bp bqa p2 he W h)
          have HS := Lib.hid (fun W h => step_end bp bqa p2 W h he)
          have HA := Lib.hid (fun W h => all_any bqa bca bwa batch n l2 W h hf3)
          have HB := Lib.hid (fun W h => all_any bqb bcb bwb batch n l2 W h hf3)
          have HE2 := Lib.hid he
          clear he
          have cbr := hbox2.cell
          have apb := hQb2.apart_w
          have len2 := HL2.out
          have hle : p2.ans ≤ 1 := by
            have h1 := qiter_takes batch n 5 l' ⟨.look, worker + 1, 0, 0, 0⟩ trivial
            rw [show qiter batch n 5 l' ⟨.look, worker + 1, 0, 0, 0⟩ = (l2, p2) from HF.out.symm.trans hfin] at h1
            exact Takes.le h1 HE2.out
          have hta := take_good bqb bcb bwb batch n l' worker wr hQb2 hf3 hb1 hsum' hw
          rw [← HF.out, hfin] at hta
          simp only at hta
          rcases (show p2.ans = 0 ∨ p2.ans = 1 by omega) with h01 | h01
          · rw [h01, show (((0 : Nat) : Int) == 1) = false from rfl] at hta
            have HT := Lib.hid hta
            have HN0 := Lib.hid h01
            clear hta h01 hle
            go_wp2_with (first | (go_at_call 19; refine (HD.out _ hP2).mono ?_; rintro e w' ⟨rfl, rfl⟩) | (go_at_call 23; go_must (refine (HT.out).mono ?_; rintro e w7 ⟨rfl, hQb7, hm7⟩)))
            have hP7 : PendAt w7 bp bqa p2 := hP2.keepEnd HE2.out hm7 (by simp; omega)
            have hQa7 := hQa2.other hm7 (by omega) (by omega) (by omega) (by omega)
            go_wp2_with (go_at_call 17; go_must (refine (HS.out _ hP7).mono ?_; rintro e w8 ⟨rfl, hP8, hm8⟩; simp only [did]))
            have tok5 : True := trivial
            have hbx : Has (w8.alloc (.cells #[.int .u8 0, .int .i64 0, .int .u64 0, .int .u64 0, .bool false] 46)) w8.heap.size 46 #[.int .u8 0, .int .i64 0, .int .u64 0, .int .u64 0, .bool false] := Has.new' rfl
            have hQa8 := (hQa7.still hm8).alloc (.cells #[.int .u8 0, .int .i64 0, .int .u64 0, .int .u64 0, .bool false] 46)
            have hQb8 := (hQb7.still hm8).alloc (.cells #[.int .u8 0, .int .i64 0, .int .u64 0, .int .u64 0, .bool false] 46)
            go_wp2_with (first | (go_at_call 19; refine (HD.out _ (hP8.allocEnd HE2.out _)).mono ?_; rintro e w' ⟨rfl, rfl⟩) | (go_at_call 20; refine (HN.out _ (hP8.allocEnd HE2.out _)).mono ?_; rintro e w' ⟨rfl, rfl⟩; simp only [HN0.out]) | (go_at_call 22; have _t := tok5; go_must (refine (HA.out _ hQa8).mono ?_; rintro e w9 ⟨va, rfl, hown9, hm9⟩; clear tok5 _t)))
            have hbx9 := hm9.has hbx (by simp)
            have hQb9 := hQb8.still hm9
            go_wp2_with (go_at_call 22; go_must (refine (HB.out _ hQb9).mono ?_; rintro e w10 ⟨vb, rfl, hown10, hm10⟩))
            have hbx10 := hm10.has hbx9 (by simp)
            have hra := (Rds.of_own hown9 (by omega) len2).moves hm10 (by simp)
            have hrb := Rds.of_own hown10 (by omega) len2
            have hwd := words_any va vb l2 l2 w10 hra hrb rfl (by omega)
            rw [show decide (l2 = l2) = true by simp] at hwd
            have HW := Lib.hid hwd
            clear hwd
            go_wp2_with (go_at_call 21; go_must (refine (HW.out).mono ?_; rintro e w11 ⟨rfl, hm11⟩; (have hbx11 := hm11.has hbx10 (by simp)); (have c11 := hbx11.cell)))
            go_ret
            exact ⟨rfl, (((((hm2r.trans hm7 (fun y hy => by simp at hy; right; omega)).trans hm8 (fun x hx => by cases hx)).alloc _).trans hm9 (fun x hx => by cases hx)).trans hm10 (fun x hx => by cases hx)).trans hm11 (fun x hx => by cases hx)⟩
          · rw [h01, show (((1 : Nat) : Int) == 1) = true from rfl] at hta
            have HT := Lib.hid hta
            have HN0 := Lib.hid h01
            clear hta h01 hle
            go_wp2_with (first | (go_at_call 19; refine (HD.out _ hP2).mono ?_; rintro e w' ⟨rfl, rfl⟩) | (go_at_call 23; go_must (refine (HT.out).mono ?_; rintro e w7 ⟨rfl, hQb7, hm7⟩)))
            have hP7 : PendAt w7 bp bqa p2 := hP2.keepEnd HE2.out hm7 (by simp; omega)
            have hQa7 := hQa2.other hm7 (by omega) (by omega) (by omega) (by omega)
            go_wp2_with (go_at_call 17; go_must (refine (HS.out _ hP7).mono ?_; rintro e w8 ⟨rfl, hP8, hm8⟩; simp only [did]))
            have tok5 : True := trivial
            have hbx : Has (w8.alloc (.cells #[.int .u8 0, .int .i64 0, .int .u64 0, .int .u64 0, .bool false] 46)) w8.heap.size 46 #[.int .u8 0, .int .i64 0, .int .u64 0, .int .u64 0, .bool false] := Has.new' rfl
            have hQa8 := (hQa7.still hm8).alloc (.cells #[.int .u8 0, .int .i64 0, .int .u64 0, .int .u64 0, .bool false] 46)
            have hQb8 := (hQb7.still hm8).alloc (.cells #[.int .u8 0, .int .i64 0, .int .u64 0, .int .u64 0, .bool false] 46)
            go_wp2_with (first | (go_at_call 19; refine (HD.out _ (hP8.allocEnd HE2.out _)).mono ?_; rintro e w' ⟨rfl, rfl⟩) | (go_at_call 20; refine (HN.out _ (hP8.allocEnd HE2.out _)).mono ?_; rintro e w' ⟨rfl, rfl⟩; simp only [HN0.out]) | (go_at_call 22; have _t := tok5; go_must (refine (HA.out _ hQa8).mono ?_; rintro e w9 ⟨va, rfl, hown9, hm9⟩; clear tok5 _t)))
            have hbx9 := hm9.has hbx (by simp)
            have hQb9 := hQb8.still hm9
            go_wp2_with (go_at_call 22; go_must (refine (HB.out _ hQb9).mono ?_; rintro e w10 ⟨vb, rfl, hown10, hm10⟩))
            have hbx10 := hm10.has hbx9 (by simp)
            have hra := (Rds.of_own hown9 (by omega) len2).moves hm10 (by simp)
            have hrb := Rds.of_own hown10 (by omega) len2
            have hwd := words_any va vb l2 l2 w10 hra hrb rfl (by omega)
            rw [show decide (l2 = l2) = true by simp] at hwd
            have HW := Lib.hid hwd
            clear hwd
            go_wp2_with (go_at_call 21; go_must (refine (HW.out).mono ?_; rintro e w11 ⟨rfl, hm11⟩; (have hbx11 := hm11.has hbx10 (by simp)); (have c11 := hbx11.cell)))
            go_ret
            exact ⟨rfl, (((((hm2r.trans hm7 (fun y hy => by simp at hy; right; omega)).trans hm8 (fun x hx => by cases hx)).alloc _).trans hm9 (fun x hx => by cases hx)).trans hm10 (fun x hx => by cases hx)).trans hm11 (fun x hx => by cases hx)⟩

set_option maxHeartbeats 4000000 in
set_option maxRecDepth 100000 in
theorem plain_back (limit batch n : Nat) (v : Value) (xs : List Int) (worker : Nat) (w : World) (hv : Rdi w v xs) (hu : Uses w) (hz : 0 < w.heap.size) (hf : fitsB limit batch n = true) (hf1 : limit ≤ 1099511627776) (hf2 : batch ≤ 1048576) (hf3 : n ≤ 64) (hw : worker < n) :
    Calls Tryd.prog 9 #[.int .i64 limit, .int .i64 batch, .int .i64 n, v, .agg #[.int .u8 2, .int .i64 worker]] w fun e w' => e = .returned (.bool true) ∧ Moves [] w w' := by
  have hbg := Lib.hid (fun W hu hz => begins_any W hu hz)
  have hnw := Lib.hid (fun W hu hz => new_good limit batch n W hf hf1 hf2 hf3 hu hz)
  have hb1 : 1 ≤ batch := by have := hf; simp only [fitsB, decide_eq_true_eq] at this; omega
  have hn1 : 1 ≤ n := by have := hf; simp only [fitsB, decide_eq_true_eq] at this; omega
  clear hf
  obtain ⟨A, cap, rfl, hlen, hxs⟩ := hv
  obtain ⟨len, hlenE⟩ : ∃ len, len = xs.length := ⟨_, rfl⟩
  rw [← hlenE] at hlen hxs ⊢
  have HLEN := Lib.hid hlenE
  clear hlenE
  go_enter Tryd.func9, Tryd.ntmps9
  have tok1 : True := trivial
  go_wp2_with (first | (go_at_call 13; go_must (refine (hbg.out _ (hu.alloc hz _) (by simp)).mono ?_; rintro e w1 ⟨rfl, hm1⟩)) | (go_at_call 11; have _t := tok1; go_must (refine (hnw.out _ ((hu.alloc hz _).moves hm1 (by simp) (by simp)) (Nat.lt_of_lt_of_le (by simp) hm1.size)).mono ?_; rintro e w2 ⟨bqa, bca, bwa, rfl, gqa, gca, gwa, hQa, hm2⟩; clear tok1 _t)))
  go_wp2_with (go_at_call 11; go_must (refine (hnw.out _ hQa.uses (by have := hQa.q.lt; omega)).mono ?_; rintro e w3 ⟨bqb, bcb, bwb, rfl, gqb, gcb, gwb, hQb, hm3⟩))
  have hs1 : w.heap.size < w1.heap.size := Nat.lt_of_lt_of_le (by simp) hm1.size
  have hbox1 : Has w1 w.heap.size 37 #[.int .u8 2, .int .i64 worker] := hm1.has (Has.new' rfl) (by simp)
  have hbox3 : Has w3 w.heap.size 37 #[.int .u8 2, .int .i64 worker] := hm3.has (hm2.has hbox1 (by simp)) (by simp)
  have hm03 : Moves [] w w3 := ((((Moves.refl [] w).alloc _).trans hm1 (by simp)).trans hm2 (by simp)).trans hm3 (by simp)
  have hQa3 := hQa.still hm3
  have lqa := hQa.q.lt
  have lca := hQa.c.lt
  have lwa := hQa.m.lt
  have hsum0 : (limit :: List.replicate n 0).sum ≤ 1099511627776 := by simp; exact hf1
  go_loopw [15] (fun i wr => ∃ k l', k ≤ len ∧ i = .int .i64 (k : Nat) ∧ Quo wr bqa bca bwa batch n l' ∧ Quo wr bqb bcb bwb batch n l' ∧ l'.sum ≤ 1099511627776 ∧ Moves [] w wr ∧ Has wr w.heap.size 37 #[.int .u8 2, .int .i64 worker]) (fun i _ => len - (intOf i).toNat)
  case atStart => exact ⟨0, _, Nat.zero_le _, rfl, hQa3, hQb, hsum0, hm03, hbox3⟩
  case round =>
    obtain ⟨k, l', hk, rfl, hQa', hQb', hsum', hm', hbox'⟩ := hrel
    by_cases hlt : k < len
    · obtain ⟨b, off, rfl, hbl, hcells⟩ := hxs (by omega)
      obtain ⟨x, hx⟩ : ∃ x, xs[k]? = some x := ⟨_, List.getElem?_eq_getElem (by have := HLEN.out; omega)⟩
      have cx := hcells k x hx
      have cx' : wr.cell? ⟨b, off + k, none⟩ = some (.int .i64 x) := by
        simp only [World.cell?] at cx ⊢
        rw [hm'.block b hbl (by simp)]
        exact cx
      have hta := Lib.hid (take_any bqa bca bwa batch n l' x wr hQa' hf3 hb1 hsum')
      have tok2 : True := trivial
      clear hcells cx hx
      have hi : (k : Int) < (len : Int) := by omega
      go_wp2_with (go_at_call 23; have _t := tok2; go_must (refine (hta.out).mono ?_; rintro e w4 ⟨rfl, hQa4, hm4⟩; clear tok2 _t; (have hQb4 := hQb'.other hm4 (by omega) (by omega) (by omega) (Ne.symm (by have := hQa'.apart_w; omega))); (have cx4 : w4.cell? ⟨b, off + k, none⟩ = some (.int .i64 x) := (hm4.cellB b (off + k) (Nat.lt_of_lt_of_le hbl hm'.size) (by omega)).trans cx')))
      have htb := Lib.hid (take_any bqb bcb bwb batch n l' x w4 hQb4 hf3 hb1 hsum')
      go_wp2_with (go_at_call 23; go_must (refine (htb.out).mono ?_; rintro e w5 ⟨rfl, hQb5, hm5⟩))
      go_roundw
      case rel =>
        have hQa5 := hQa4.other hm5 (by omega) (by omega) (by omega) (by have := hQb4.apart_w; omega)
        have h6 := (takeZ_inv (worker := x) hb1 hQa'.len).2
        refine ⟨k + 1, _, by omega, by go_num, hQa5, hQb5, by omega, (hm'.trans hm4 (fun y hy => by simp at hy; subst hy; right; omega)).trans hm5 (fun y hy => by simp at hy; subst hy; right; omega), ?_⟩
        exact hm5.has (hm4.has hbox' (by simp; omega)) (by simp; omega)
      case measure => simp [intOf]; omega
    · obtain rfl : k = len := by omega
      have hS := Lib.hid (StartIs.back (bq := bqa) hw hf3)
      obtain ⟨wa, hwa⟩ : ∃ wa, wa = wr := ⟨_, rfl⟩
      subst hwa
      have cb := hbox'.cell
      have q2 := hQa'.q2
      have lqb := hQb'.q.lt
      have lcb := hQb'.c.lt
      have lwb := hQb'.m.lt
      go_wp2_with (go_at_call 14; go_must (refine (hS.out _ q2).mono ?_; rintro e w6 ⟨bp, rfl, gbp, hP6, hm6⟩))
      have hQa6 := hQa'.still hm6
      have hQb6 := hQb'.still hm6
      have hbox6 := hm6.has hbox' (by simp)
      have hm06 : Moves [] w w6 := hm'.trans hm6 (fun x hx => by cases hx)
      obtain ⟨F, hF⟩ : ∃ F, F = qback batch n l' worker := ⟨_, rfl⟩
      obtain ⟨K, hK⟩ : ∃ K, K = 2 := ⟨_, rfl⟩
      have hend : F.2.nx.ended = true := by
        rw [hF]
        exact qiter_ends batch n l'.sum (2) l' ⟨.empty, worker + 1, 0, 0, 0⟩ trivial (loc_empty hw) hb1 hQa'.len (by simp [Nx.hand]) (by simp [toGo])
      have hF0 : qiter batch n K l' ⟨.empty, worker + 1, 0, 0, 0⟩ = F := by rw [hF, hK]; rfl
      have hfi := qiter_inv batch n l'.sum hb1 K l' ⟨.empty, worker + 1, 0, 0, 0⟩ (loc_empty hw) hQa'.len (by simp [Nx.hand])
      rw [hF0] at hfi
      simp only [Nx.hand, Nat.add_zero] at hfi
      have HE := Lib.hid hend
      have HF := Lib.hid hF
      have HFI := Lib.hid hfi
      clear hend hF hfi
      have hKn : K ≤ n + 4 := by omega
      clear hK
      go_loopw [17] (fun i wr => ∃ j g l2 p2, j + g = K ∧ i = .int .i64 (j : Nat) ∧ qiter batch n g l2 p2 = F ∧ Still l2 p2 ∧ Loc n l'.sum p2 ∧ l2.sum + p2.nx.hand ≤ l'.sum ∧ l2.length = n + 1 ∧ PendAt wr bp bqa p2 ∧ Quo wr bqa bca bwa batch n l2 ∧ Quo wr bqb bcb bwb batch n l' ∧ Moves [] w wr ∧ Has wr w.heap.size 37 #[.int .u8 2, .int .i64 worker]) (fun i _ => K - (intOf i).toNat)
      case atStart => exact ⟨0, K, _, _, by omega, rfl, hF0, trivial, (loc_empty hw), by simp [Nx.hand], hQa'.len, hP6, hQa6, hQb6, hm06, hbox6⟩
      case round =>
        obtain ⟨j, g, l2, p2, hjg, rfl, hF2, hst2, hloc2, htot2, hlen2, hP2, hQa2, hQb2, hm2r, hbox2⟩ := hrel
        have HF2 := Lib.hid hF2
        have HL2 := Lib.hid hlen2
        clear hF2 hlen2
        have hj : (j : Int) ≤ (n : Int) + 4 := by omega
        have hjb : j ≤ 68 := by omega
        have hdone := done_any bp bqa p2 wr hP2
        have hbpa := gbp
        have hsz06 := hm'.size
        cases he : p2.nx.ended with
        | false =>
          rw [he] at hdone
          have HD := Lib.hid hdone
          have hstep := Lib.hid (step_any bp bqa bca bwa batch n l2 p2 wr hP2 hQa2 (hloc2.wf hb1 hf3 hsum' htot2))
          have HE' := Lib.hid he
          clear hdone he
          go_wp2_with (first | (go_at_call 19; refine (HD.out).mono ?_; rintro e w' ⟨rfl, rfl⟩) | (go_at_call 17; go_must (refine (hstep.out).mono ?_; rintro e w8 ⟨rfl, hP8, hQa8, hm8⟩; simp only [Dd.val, did])))
          cases g with
          | zero =>
            exfalso
            have h1 := HF2.out
            simp only [qiter] at h1
            have h2 := HE.out
            rw [← h1] at h2
            rw [HE'.out] at h2
            cases h2
          | succ g =>
            have h3 := qstep_total batch n l'.sum l2 p2 HL2.out hloc2 hb1
            have hsm : p2.nx = .sum → p2.left ≤ n := fun e => by have := hloc2.2.2; rw [e] at this; exact this.1
            go_roundw
            case rel =>
              have apb := hQb2.apart_w
              refine ⟨j + 1, g, _, _, by omega, by go_num, ?_, (qstep_still batch n l2 p2 hst2 hsm HE'.out).1, qstep_loc batch n l'.sum l2 p2 hloc2 hb1 (by omega), by omega, by rw [qstep_length, HL2.out], hP8, hQa8, ?_, ?_, ?_⟩
              · rw [← HF2.out, qiter_succ _ _ _ _ _ HE'.out]
              · exact hQb2.moves hm8 (by simp; omega) (hm8.has hQb2.m (by simp; omega)) rfl
              · exact hm2r.trans hm8 (fun y hy => by simp at hy; right; omega)
              · exact hm8.has hbox2 (by simp; omega)
            case measure => simp [intOf]; omega
        | true =>
          clear hdone
          have hfin := HF2.out.symm.trans (qiter_ended batch n g l2 p2 he)
          have HD := Lib.hid (fun W h => done_end bp bqa p2 he W h)
          have HN := Lib.hid (fun W h => answer_end bp bqa p2 he W h)
          have HS := Lib.hid (fun W h => step_end bp bqa p2 W h he)
          have HA := Lib.hid (fun W h => all_any bqa bca bwa batch n l2 W h hf3)
          have HB := Lib.hid (fun W h => all_any bqb bcb bwb batch n l2 W h hf3)
          have HE2 := Lib.hid he
          clear he
          have cbr := hbox2.cell
          have apb := hQb2.apart_w
          have len2 := HL2.out
          have hta := back_good bqb bcb bwb batch n l' worker wr hQb2 hf3 hb1 hsum' hw
          rw [← HF.out, hfin] at hta
          simp only at hta
          have HT := Lib.hid hta
          clear hta
          obtain ⟨z, hz2⟩ : ∃ z : Int, z = (p2.ans : Int) := ⟨_, rfl⟩
          rw [← hz2] at HN HT
          clear hz2
          go_wp2_with (first | (go_at_call 19; refine (HD.out _ hP2).mono ?_; rintro e w' ⟨rfl, rfl⟩) | (go_at_call 24; go_must (refine (HT.out).mono ?_; rintro e w7 ⟨rfl, hQb7, hm7⟩)))
          have hP7 : PendAt w7 bp bqa p2 := hP2.keepEnd HE2.out hm7 (by simp; omega)
          have hQa7 := hQa2.other hm7 (by omega) (by omega) (by omega) (by omega)
          go_wp2_with (go_at_call 17; go_must (refine (HS.out _ hP7).mono ?_; rintro e w8 ⟨rfl, hP8, hm8⟩; simp only [did]))
          have tok5 : True := trivial
          have hbx : Has (w8.alloc (.cells #[.int .u8 0, .int .i64 0, .int .u64 0, .int .u64 0, .bool false] 46)) w8.heap.size 46 #[.int .u8 0, .int .i64 0, .int .u64 0, .int .u64 0, .bool false] := Has.new' rfl
          have hQa8 := (hQa7.still hm8).alloc (.cells #[.int .u8 0, .int .i64 0, .int .u64 0, .int .u64 0, .bool false] 46)
          have hQb8 := (hQb7.still hm8).alloc (.cells #[.int .u8 0, .int .i64 0, .int .u64 0, .int .u64 0, .bool false] 46)
          go_wp2_with (first | (go_at_call 19; refine (HD.out _ (hP8.allocEnd HE2.out _)).mono ?_; rintro e w' ⟨rfl, rfl⟩) | (go_at_call 20; refine (HN.out _ (hP8.allocEnd HE2.out _)).mono ?_; rintro e w' ⟨rfl, rfl⟩) | (go_at_call 22; have _t := tok5; go_must (refine (HA.out _ hQa8).mono ?_; rintro e w9 ⟨va, rfl, hown9, hm9⟩; clear tok5 _t)))
          have hbx9 := hm9.has hbx (by simp)
          have hQb9 := hQb8.still hm9
          go_wp2_with (go_at_call 22; go_must (refine (HB.out _ hQb9).mono ?_; rintro e w10 ⟨vb, rfl, hown10, hm10⟩))
          have hbx10 := hm10.has hbx9 (by simp)
          have hra := (Rds.of_own hown9 (by omega) len2).moves hm10 (by simp)
          have hrb := Rds.of_own hown10 (by omega) len2
          have hwd := words_any va vb l2 l2 w10 hra hrb rfl (by omega)
          rw [show decide (l2 = l2) = true by simp] at hwd
          have HW := Lib.hid hwd
          clear hwd
          go_wp2_with (go_at_call 21; go_must (refine (HW.out).mono ?_; rintro e w11 ⟨rfl, hm11⟩; (have hbx11 := hm11.has hbx10 (by simp)); (have c11 := hbx11.cell)))
          go_ret
          exact ⟨rfl, (((((hm2r.trans hm7 (fun y hy => by simp at hy; right; omega)).trans hm8 (fun x hx => by cases hx)).alloc _).trans hm9 (fun x hx => by cases hx)).trans hm10 (fun x hx => by cases hx)).trans hm11 (fun x hx => by cases hx)⟩

set_option maxHeartbeats 4000000 in
set_option maxRecDepth 100000 in
theorem plain_left (limit batch n : Nat) (v : Value) (xs : List Int)  (w : World) (hv : Rdi w v xs) (hu : Uses w) (hz : 0 < w.heap.size) (hf : fitsB limit batch n = true) (hf1 : limit ≤ 1099511627776) (hf2 : batch ≤ 1048576) (hf3 : n ≤ 64) :
    Calls Tryd.prog 9 #[.int .i64 limit, .int .i64 batch, .int .i64 n, v, .agg #[.int .u8 3, .int .i64 0]] w fun e w' => e = .returned (.bool true) ∧ Moves [] w w' := by
  have hbg := Lib.hid (fun W hu hz => begins_any W hu hz)
  have hnw := Lib.hid (fun W hu hz => new_good limit batch n W hf hf1 hf2 hf3 hu hz)
  have hb1 : 1 ≤ batch := by have := hf; simp only [fitsB, decide_eq_true_eq] at this; omega
  have hn1 : 1 ≤ n := by have := hf; simp only [fitsB, decide_eq_true_eq] at this; omega
  clear hf
  obtain ⟨A, cap, rfl, hlen, hxs⟩ := hv
  obtain ⟨len, hlenE⟩ : ∃ len, len = xs.length := ⟨_, rfl⟩
  rw [← hlenE] at hlen hxs ⊢
  have HLEN := Lib.hid hlenE
  clear hlenE
  go_enter Tryd.func9, Tryd.ntmps9
  have tok1 : True := trivial
  go_wp2_with (first | (go_at_call 13; go_must (refine (hbg.out _ (hu.alloc hz _) (by simp)).mono ?_; rintro e w1 ⟨rfl, hm1⟩)) | (go_at_call 11; have _t := tok1; go_must (refine (hnw.out _ ((hu.alloc hz _).moves hm1 (by simp) (by simp)) (Nat.lt_of_lt_of_le (by simp) hm1.size)).mono ?_; rintro e w2 ⟨bqa, bca, bwa, rfl, gqa, gca, gwa, hQa, hm2⟩; clear tok1 _t)))
  go_wp2_with (go_at_call 11; go_must (refine (hnw.out _ hQa.uses (by have := hQa.q.lt; omega)).mono ?_; rintro e w3 ⟨bqb, bcb, bwb, rfl, gqb, gcb, gwb, hQb, hm3⟩))
  have hs1 : w.heap.size < w1.heap.size := Nat.lt_of_lt_of_le (by simp) hm1.size
  have hbox1 : Has w1 w.heap.size 37 #[.int .u8 3, .int .i64 0] := hm1.has (Has.new' rfl) (by simp)
  have hbox3 : Has w3 w.heap.size 37 #[.int .u8 3, .int .i64 0] := hm3.has (hm2.has hbox1 (by simp)) (by simp)
  have hm03 : Moves [] w w3 := ((((Moves.refl [] w).alloc _).trans hm1 (by simp)).trans hm2 (by simp)).trans hm3 (by simp)
  have hQa3 := hQa.still hm3
  have lqa := hQa.q.lt
  have lca := hQa.c.lt
  have lwa := hQa.m.lt
  have hsum0 : (limit :: List.replicate n 0).sum ≤ 1099511627776 := by simp; exact hf1
  go_loopw [15] (fun i wr => ∃ k l', k ≤ len ∧ i = .int .i64 (k : Nat) ∧ Quo wr bqa bca bwa batch n l' ∧ Quo wr bqb bcb bwb batch n l' ∧ l'.sum ≤ 1099511627776 ∧ Moves [] w wr ∧ Has wr w.heap.size 37 #[.int .u8 3, .int .i64 0]) (fun i _ => len - (intOf i).toNat)
  case atStart => exact ⟨0, _, Nat.zero_le _, rfl, hQa3, hQb, hsum0, hm03, hbox3⟩
  case round =>
    obtain ⟨k, l', hk, rfl, hQa', hQb', hsum', hm', hbox'⟩ := hrel
    by_cases hlt : k < len
    · obtain ⟨b, off, rfl, hbl, hcells⟩ := hxs (by omega)
      obtain ⟨x, hx⟩ : ∃ x, xs[k]? = some x := ⟨_, List.getElem?_eq_getElem (by have := HLEN.out; omega)⟩
      have cx := hcells k x hx
      have cx' : wr.cell? ⟨b, off + k, none⟩ = some (.int .i64 x) := by
        simp only [World.cell?] at cx ⊢
        rw [hm'.block b hbl (by simp)]
        exact cx
      have hta := Lib.hid (take_any bqa bca bwa batch n l' x wr hQa' hf3 hb1 hsum')
      have tok2 : True := trivial
      clear hcells cx hx
      have hi : (k : Int) < (len : Int) := by omega
      go_wp2_with (go_at_call 23; have _t := tok2; go_must (refine (hta.out).mono ?_; rintro e w4 ⟨rfl, hQa4, hm4⟩; clear tok2 _t; (have hQb4 := hQb'.other hm4 (by omega) (by omega) (by omega) (Ne.symm (by have := hQa'.apart_w; omega))); (have cx4 : w4.cell? ⟨b, off + k, none⟩ = some (.int .i64 x) := (hm4.cellB b (off + k) (Nat.lt_of_lt_of_le hbl hm'.size) (by omega)).trans cx')))
      have htb := Lib.hid (take_any bqb bcb bwb batch n l' x w4 hQb4 hf3 hb1 hsum')
      go_wp2_with (go_at_call 23; go_must (refine (htb.out).mono ?_; rintro e w5 ⟨rfl, hQb5, hm5⟩))
      go_roundw
      case rel =>
        have hQa5 := hQa4.other hm5 (by omega) (by omega) (by omega) (by have := hQb4.apart_w; omega)
        have h6 := (takeZ_inv (worker := x) hb1 hQa'.len).2
        refine ⟨k + 1, _, by omega, by go_num, hQa5, hQb5, by omega, (hm'.trans hm4 (fun y hy => by simp at hy; subst hy; right; omega)).trans hm5 (fun y hy => by simp at hy; subst hy; right; omega), ?_⟩
        exact hm5.has (hm4.has hbox' (by simp; omega)) (by simp; omega)
      case measure => simp [intOf]; omega
    · obtain rfl : k = len := by omega
      have hS := Lib.hid (show StartIs bqa n 3 0 _ from StartIs.sum (bq := bqa) (by omega) hf3)
      obtain ⟨wa, hwa⟩ : ∃ wa, wa = wr := ⟨_, rfl⟩
      subst hwa
      have cb := hbox'.cell
      have q2 := hQa'.q2
      have lqb := hQb'.q.lt
      have lcb := hQb'.c.lt
      have lwb := hQb'.m.lt
      go_wp2_with (go_at_call 14; go_must (refine (hS.out _ q2).mono ?_; rintro e w6 ⟨bp, rfl, gbp, hP6, hm6⟩))
      have hQa6 := hQa'.still hm6
      have hQb6 := hQb'.still hm6
      have hbox6 := hm6.has hbox' (by simp)
      have hm06 : Moves [] w w6 := hm'.trans hm6 (fun x hx => by cases hx)
      obtain ⟨F, hF⟩ : ∃ F, F = qleft batch n l' := ⟨_, rfl⟩
      obtain ⟨K, hK⟩ : ∃ K, K = n + 1 := ⟨_, rfl⟩
      have hend : F.2.nx.ended = true := by
        rw [hF]
        exact qiter_ends batch n l'.sum (n + 1) l' ⟨.sum, 1, 0, 0, 0⟩ trivial (loc_sum hn1) hb1 hQa'.len (by simp [Nx.hand]) (by simp [toGo])
      have hF0 : qiter batch n K l' ⟨.sum, 1, 0, 0, 0⟩ = F := by rw [hF, hK]; rfl
      have hfi := qiter_inv batch n l'.sum hb1 K l' ⟨.sum, 1, 0, 0, 0⟩ (loc_sum hn1) hQa'.len (by simp [Nx.hand])
      rw [hF0] at hfi
      simp only [Nx.hand, Nat.add_zero] at hfi
      have HE := Lib.hid hend
      have HF := Lib.hid hF
      have HFI := Lib.hid hfi
      clear hend hF hfi
      have hKn : K ≤ n + 4 := by omega
      clear hK
      go_loopw [17] (fun i wr => ∃ j g l2 p2, j + g = K ∧ i = .int .i64 (j : Nat) ∧ qiter batch n g l2 p2 = F ∧ Still l2 p2 ∧ Loc n l'.sum p2 ∧ l2.sum + p2.nx.hand ≤ l'.sum ∧ l2.length = n + 1 ∧ PendAt wr bp bqa p2 ∧ Quo wr bqa bca bwa batch n l2 ∧ Quo wr bqb bcb bwb batch n l' ∧ Moves [] w wr ∧ Has wr w.heap.size 37 #[.int .u8 3, .int .i64 0]) (fun i _ => K - (intOf i).toNat)
      case atStart => exact ⟨0, K, _, _, by omega, rfl, hF0, trivial, (loc_sum hn1), by simp [Nx.hand], hQa'.len, hP6, hQa6, hQb6, hm06, hbox6⟩
      case round =>
        obtain ⟨j, g, l2, p2, hjg, rfl, hF2, hst2, hloc2, htot2, hlen2, hP2, hQa2, hQb2, hm2r, hbox2⟩ := hrel
        have HF2 := Lib.hid hF2
        have HL2 := Lib.hid hlen2
        clear hF2 hlen2
        have hj : (j : Int) ≤ (n : Int) + 4 := by omega
        have hjb : j ≤ 68 := by omega
        have hdone := done_any bp bqa p2 wr hP2
        have hbpa := gbp
        have hsz06 := hm'.size
        cases he : p2.nx.ended with
        | false =>
          rw [he] at hdone
          have HD := Lib.hid hdone
          have hstep := Lib.hid (step_any bp bqa bca bwa batch n l2 p2 wr hP2 hQa2 (hloc2.wf hb1 hf3 hsum' htot2))
          have HE' := Lib.hid he
          clear hdone he
          go_wp2_with (first | (go_at_call 19; refine (HD.out).mono ?_; rintro e w' ⟨rfl, rfl⟩) | (go_at_call 17; go_must (refine (hstep.out).mono ?_; rintro e w8 ⟨rfl, hP8, hQa8, hm8⟩; simp only [Dd.val, did])))
          cases g with
          | zero =>
            exfalso
            have h1 := HF2.out
            simp only [qiter] at h1
            have h2 := HE.out
            rw [← h1] at h2
            rw [HE'.out] at h2
            cases h2
          | succ g =>
            have h3 := qstep_total batch n l'.sum l2 p2 HL2.out hloc2 hb1
            have hsm : p2.nx = .sum → p2.left ≤ n := fun e => by have := hloc2.2.2; rw [e] at this; exact this.1
            go_roundw
            case rel =>
              have apb := hQb2.apart_w
              refine ⟨j + 1, g, _, _, by omega, by go_num, ?_, (qstep_still batch n l2 p2 hst2 hsm HE'.out).1, qstep_loc batch n l'.sum l2 p2 hloc2 hb1 (by omega), by omega, by rw [qstep_length, HL2.out], hP8, hQa8, ?_, ?_, ?_⟩
              · rw [← HF2.out, qiter_succ _ _ _ _ _ HE'.out]
              · exact hQb2.moves hm8 (by simp; omega) (hm8.has hQb2.m (by simp; omega)) rfl
              · exact hm2r.trans hm8 (fun y hy => by simp at hy; right; omega)
              · exact hm8.has hbox2 (by simp; omega)
            case measure => simp [intOf]; omega
        | true =>
          clear hdone
          have hfin := HF2.out.symm.trans (qiter_ended batch n g l2 p2 he)
          have HD := Lib.hid (fun W h => done_end bp bqa p2 he W h)
          have HN := Lib.hid (fun W h => answer_end bp bqa p2 he W h)
          have HS := Lib.hid (fun W h => step_end bp bqa p2 W h he)
          have HA := Lib.hid (fun W h => all_any bqa bca bwa batch n l2 W h hf3)
          have HB := Lib.hid (fun W h => all_any bqb bcb bwb batch n l2 W h hf3)
          have HE2 := Lib.hid he
          clear he
          have cbr := hbox2.cell
          have apb := hQb2.apart_w
          have len2 := HL2.out
          have hta := left_good bqb bcb bwb batch n l' wr hQb2 hf3 hn1 hb1 hsum'
          rw [← HF.out, hfin] at hta
          simp only at hta
          have HT := Lib.hid hta
          clear hta
          obtain ⟨z, hz2⟩ : ∃ z : Int, z = (p2.ans : Int) := ⟨_, rfl⟩
          rw [← hz2] at HN HT
          clear hz2
          go_wp2_with (first | (go_at_call 19; refine (HD.out _ hP2).mono ?_; rintro e w' ⟨rfl, rfl⟩) | (go_at_call 25; go_must (refine (HT.out).mono ?_; rintro e w7 ⟨rfl, hQb7, hm7⟩)))
          have hP7 : PendAt w7 bp bqa p2 := hP2.keepEnd HE2.out hm7 (by simp; omega)
          have hQa7 := hQa2.other hm7 (by omega) (by omega) (by omega) (by omega)
          go_wp2_with (go_at_call 17; go_must (refine (HS.out _ hP7).mono ?_; rintro e w8 ⟨rfl, hP8, hm8⟩; simp only [did]))
          have tok5 : True := trivial
          have hbx : Has (w8.alloc (.cells #[.int .u8 0, .int .i64 0, .int .u64 0, .int .u64 0, .bool false] 46)) w8.heap.size 46 #[.int .u8 0, .int .i64 0, .int .u64 0, .int .u64 0, .bool false] := Has.new' rfl
          have hQa8 := (hQa7.still hm8).alloc (.cells #[.int .u8 0, .int .i64 0, .int .u64 0, .int .u64 0, .bool false] 46)
          have hQb8 := (hQb7.still hm8).alloc (.cells #[.int .u8 0, .int .i64 0, .int .u64 0, .int .u64 0, .bool false] 46)
          go_wp2_with (first | (go_at_call 19; refine (HD.out _ (hP8.allocEnd HE2.out _)).mono ?_; rintro e w' ⟨rfl, rfl⟩) | (go_at_call 20; refine (HN.out _ (hP8.allocEnd HE2.out _)).mono ?_; rintro e w' ⟨rfl, rfl⟩) | (go_at_call 22; have _t := tok5; go_must (refine (HA.out _ hQa8).mono ?_; rintro e w9 ⟨va, rfl, hown9, hm9⟩; clear tok5 _t)))
          have hbx9 := hm9.has hbx (by simp)
          have hQb9 := hQb8.still hm9
          go_wp2_with (go_at_call 22; go_must (refine (HB.out _ hQb9).mono ?_; rintro e w10 ⟨vb, rfl, hown10, hm10⟩))
          have hbx10 := hm10.has hbx9 (by simp)
          have hra := (Rds.of_own hown9 (by omega) len2).moves hm10 (by simp)
          have hrb := Rds.of_own hown10 (by omega) len2
          have hwd := words_any va vb l2 l2 w10 hra hrb rfl (by omega)
          rw [show decide (l2 = l2) = true by simp] at hwd
          have HW := Lib.hid hwd
          clear hwd
          go_wp2_with (go_at_call 21; go_must (refine (HW.out).mono ?_; rintro e w11 ⟨rfl, hm11⟩; (have hbx11 := hm11.has hbx10 (by simp)); (have c11 := hbx11.cell)))
          go_ret
          exact ⟨rfl, (((((hm2r.trans hm7 (fun y hy => by simp at hy; right; omega)).trans hm8 (fun x hx => by cases hx)).alloc _).trans hm9 (fun x hx => by cases hx)).trans hm10 (fun x hx => by cases hx)).trans hm11 (fun x hx => by cases hx)⟩
end Go.Proofs.YtigacfgoldnoiaaDoor
