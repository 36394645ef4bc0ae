/- labels.Parse, labels.ParseMatch (printed by a program of this session: gen/labelsHP.py). -/
import Derived.Test.YtogegkfefpgbcaaDoorZXPLx0
import Derived.Test.YtogegkfefpgbcaaDoorZXQ1
import Derived.Test.YtogegkfefpgbcaaDoorZXQ2
import Derived.Test.YtogegkfefpgbcaaDoorZXQ3
import Derived.Test.YtogegkfefpgbcaaDoorZXQ4
import Derived.Test.YtogegkfefpgbcaaDoorZXQ5
import Derived.Test.YtogegkfefpgbcaaDoorZXQ6
import Derived.Test.YtogegkfefpgbcaaDoorZXHM
namespace Go.Proofs.YtogegkfefpgbcaaDoor.PL
open Go.RowKit Go.Proofs.YtogegkfefpgbcaaDoorW.PrintWords Go.Proofs.YtogegkfefpgbcaaDoorW.PrintLast Go.Proofs.YtogegkfefpgbcaaDoorW.PrintMore
set_option linter.unusedVariables false
set_option linter.unusedSimpArgs false
attribute [local go_sem] World.cell?_alloc_old World.frozen?_alloc_old
def labOf (x : S36) : S59 := ⟨x.f1, x.f2⟩
def labels_Parse.f (x : ByteArray) : Option (List S59 × Int × Int) :=
  if x.size ≤ 140737488355000 then (readF x false).bind fun r => if r.2.2.1 ≠ 0 then some ([], r.2.2.1, r.2.2.2) else if r.2.1.length ≤ 1000 then some (sortN (r.2.1.map labOf), 0, 0) else none
  else none
theorem alloc_size (w : World) (o : Obj) : w.heap.size + 1 = (w.alloc o).heap.size := (Array.size_push ..).symm
theorem take_lab (l : List S36) (j : Int) (h0 : 0 ≤ j) (hj : j < l.length) : (l.take (j + 1).toNat).map labOf = (l.take j.toNat).map labOf ++ [labOf (rd_T36 l j)] := by
  have e : (j + 1).toNat = j.toNat + 1 := by omega
  have hlt : j.toNat < l.length := by omega
  rw [e, List.take_succ_eq_append_getElem hlt, List.map_append]
  have : rd_T36 l j = l[j.toNat] := by
    simp [rd_T36, List.getD, hlt]
  rw [this]; rfl

set_option maxHeartbeats 800000 in
set_option maxRecDepth 100000 in
theorem labels_Parse.calls (s : ByteArray) (r0 : List S59) (r1 r2 : Int) (w : World) (hG : G w) (h : labels_Parse.f s = some (r0, r1, r2)) :
    Calls Tryd.prog 14 #[.string s] w fun e w' => ∃ v0_ : Value, e = .returned (.tuple #[v0_, .int .i64 r1, .int .i64 r2]) ∧ Kd.R k59 59 w' w.heap.size (fun _ => True) v0_ r0 ∧ Below w.heap.size w w' := by
  unfold labels_Parse.f at h; by_cases hs : s.size ≤ 140737488355000
  · rw [if_pos hs] at h
    obtain ⟨r, hF, h⟩ := Option.bind_eq_some_iff.1 h; have HF := Lib.hid hF; have HS := Lib.hid hs; clear hF hs; obtain ⟨ri, l, rw_, ra⟩ := r; dsimp only at h; by_cases hw : rw_ = 0
    · subst hw
      rw [if_neg (by simp)] at h; by_cases hl : l.length ≤ 1000
      · rw [if_pos hl] at h
        cases h; have HL := Lib.hid hl; clear hl; go_enter Tryd.func14, Tryd.ntmps14; go_wp2_with (first | (go_at_call 49; (with_reducible refine (read_calls s false w hG HS.out _ HF.out).mono ?_); rintro e w1 ⟨g, v1, rfl, hi3, hr3, hb3⟩; obtain ⟨A1, c1, rfl⟩ := Kd.R_slice hr3; have HI1 := Lib.hid hi3; have HB1 := Lib.hid hb3; have HR1 := Lib.hid hr3; have k3_1 := cellS71_3 hi3.1; have k4_1 := cellS71_4 hi3.1; have k5_1 := cellS71_5 hi3.1; clear hi3 hb3 hr3))
        go_loopw [6, 29] (fun u6 u29 wr => ∃ (j : Int), u29 = .int .i64 j ∧ 0 ≤ j ∧ j ≤ l.length ∧ Hid (Kd.R k36 36 wr w.heap.size (fun _ => True) (.slice A1 l.length c1) l) ∧ Hid (Kd.R k59 59 wr w.heap.size (fun _ => True) u6 ((l.take j.toNat).map labOf)) ∧ Hid (Below w.heap.size w wr)) (fun _ u _ => l.length - (intOf u).toNat)
        case atStart => exact ⟨0, rfl, by omega, by omega, HR1, Lib.hid (Kd.R_nil _ _ _ _ _), HB1⟩
        case round =>
          obtain ⟨j, rfl, hj0, hjl, HR2, HO2, HB2⟩ := hrel; by_cases hp : j < (l.length : Int)
          · have hp9 : decide (j < (l.length : Int)) = true := decide_eq_true hp
            obtain ⟨_, _, hC⟩ := Kd.R_reads' HR2.out; obtain ⟨ad, e1, hx0, hx1, hx2⟩ := at_T36 hC j hj0 hp; subst e1; have hjw : IntKind.i64.wrap (j + 1) = j + 1 := IntWalk.i64_in _ (by have := HL.out; omega); have HTK := Lib.hid (take_lab l j hj0 hp); clear hC
            go_wp2_with (first | ((with_reducible refine gate_builtin (b := .append) (xs := #[.tmp 33, .tmp 39]) rfl ?_); at_builtin; go_must (refine Kd.R_append k59 (w0 := w) w.heap.size rfl (.tmp 33) (.tmp 39) 22 59 (.agg #[(.string ⟨#[]⟩), (.string ⟨#[]⟩)]) 32 rfl Tryd.underlying22 info59 rfl (by decide) (by omega) u6 ((l.take j.toNat).map labOf) (labOf (rd_T36 l j)) [.string ((rd_T36 l j).f1), .string ((rd_T36 l j).f2)] (fun _ => True) (fun _ => False) rfl (congrArg (fun b => Value.slice (some (⟨b, 0, none⟩ : Addr)) 1 1) (alloc_size wr _)) ?aP (fun _ hk => hk.elim) ?aF ?aO ?aB ?aS ?aL ?_); (case aP => exact k59_mkM _ _ _ (labOf (rd_T36 l j))); (case aB => repeat (first | (with_reducible first | exact HB2.out | apply below_alloc | apply pw_below_drewN | apply below_drew1))); (case aF => exact fun _ _ => trivial); (case aO => repeat (first | (with_reducible first | exact HO2.out | apply Kd.R_alloc | apply Kd.R_drewN | apply Kd.R_drew))); (case aS => exact (below_size (w := w) (by repeat (first | (with_reducible first | exact HB2.out | apply below_alloc | apply pw_below_drewN | apply below_drew1))))); (case aL => (have := HL.out; simp; omega)); intro v5 w5 ho hb hg hat; have HO5 := Lib.hid ho; have HB5 := Lib.hid hb; have HR5 := Lib.hid (Kd.R_over' (e' := 59) (v := u6) (by repeat (first | (with_reducible first | exact HR2.out | apply Kd.R_alloc | apply Kd.R_drewN | apply Kd.R_drew))) (Kd.R_typed (d := k59) (xs := (l.take j.toNat).map labOf) (by repeat (first | (with_reducible first | exact HO2.out | apply Kd.R_alloc | apply Kd.R_drewN | apply Kd.R_drew)))) (by decide) hg); clear ho hb hg hat))
            go_roundw
            case rel => exact ⟨j + 1, rfl, by omega, by omega, HR5, Lib.hid (by rw [HTK.out]; exact HO5.out), HB5⟩
            case measure => simp [intOf]; omega
          · have hp9 : decide (j < (l.length : Int)) = false := decide_eq_false hp
            obtain rfl : j = l.length := by omega
            have ho2 := HO2.out; rw [Int.toNat_natCast, List.take_length] at ho2; obtain ⟨A6, c6, rfl⟩ := Kd.R_slice ho2; obtain ⟨_, hc6, hC6⟩ := Kd.R_reads' ho2; have HS6 : Hid (api_Label_string_50.f (l.map labOf) = some (sortN (l.map labOf))) := Lib.hid (by unfold api_Label_string_50.f; rw [if_pos (by have := HL.out; simp; omega)]); have HC6 := Lib.hid hC6; have HD6 := Lib.hid hc6
            have HS50 : Hid (∀ W, Kd.C k59 W A6 (l.map labOf).length (l.map labOf) → Calls Tryd.prog 50 #[.slice A6 l.length c6, .func (.func 51) #[] #[]] W fun e w' => ∃ v0_ : Value, e = .returned (v0_) ∧ Kd.R k59 59 w' W.heap.size (fun _ => True) v0_ (sortN (l.map labOf)) ∧ Below W.heap.size W w') := Lib.hid (fun W hc => by
              have h := api_Label_string_50.calls A6 c6 (l.map labOf) (sortN (l.map labOf)) W hc HD6.out HS6.out; rw [List.length_map] at h; exact h)
            clear ho2 hc6 hC6 HS6; go_wp2_with (first | (go_at_call 50; (with_reducible refine (HS50.out _ ?side1).mono ?_); (case side1 => exact HC6.out); rintro e w7 ⟨v7, rfl, ho7, hb7⟩; have HO7 := Lib.hid ho7; have HB7 := Lib.hid hb7; clear ho7 hb7))
            first | ((try simp only [Exit.inBlock, Exit.then]); refine bodyPost_ret (results_tmp3 rfl _ _ _) rfl ?_) | go_end0
            exact ⟨_, rfl, Kd.R_lower HO7.out (below_size HB2.out), below_step HB2.out HB7.out⟩
      · rw [if_neg hl] at h
        cases h
    · rw [if_pos hw] at h
      have hw9 : (rw_ != 0) = true := bne_iff_ne.mpr hw
      cases h; clear hw; go_enter Tryd.func14, Tryd.ntmps14; go_wp2_with (first | (go_at_call 49; (with_reducible refine (read_calls s false w hG HS.out _ HF.out).mono ?_); rintro e w1 ⟨g, v1, rfl, hi3, hr3, hb3⟩; obtain ⟨A1, c1, rfl⟩ := Kd.R_slice hr3; have HI1 := Lib.hid hi3; have HB1 := Lib.hid hb3; have HR1 := Lib.hid hr3; have k3_1 := cellS71_3 hi3.1; have k4_1 := cellS71_4 hi3.1; have k5_1 := cellS71_5 hi3.1; clear hi3 hb3 hr3))
      repeat (go_quiet (fail); try go_wp2)
      first | ((try simp only [Exit.inBlock, Exit.then]); refine bodyPost_ret (results_tmp3 rfl _ _ _) rfl ?_) | go_end0
      exact ⟨_, rfl, Kd.R_nil _ _ _ _ _, by repeat (first | (with_reducible first | exact HB1.out | apply below_alloc | apply pw_below_drewN | apply below_drew1))⟩
  · rw [if_neg hs] at h
    cases h

end Go.Proofs.YtogegkfefpgbcaaDoor.PL
