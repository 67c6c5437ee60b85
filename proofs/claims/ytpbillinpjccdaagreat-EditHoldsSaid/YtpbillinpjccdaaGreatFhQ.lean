/- Contracts: walking. -/
import Derived.Test.YtpbillinpjccdaaGreatFgQ
import Derived.Test.YtpbillinpjccdaaGreatReQ
namespace Go.Proofs.YtpbillinpjccdaaGreat.Fh
open Go.RowKit Go.J Go.R Go.Proofs.YtpbillinpjccdaaGreat.Fa Go.Proofs.YtpbillinpjccdaaGreat.Fb Go.Proofs.YtpbillinpjccdaaGreat.Fc Go.Proofs.YtpbillinpjccdaaGreat.Fd Go.Proofs.YtpbillinpjccdaaGreat.Fe Go.Proofs.YtpbillinpjccdaaGreat.Fg
set_option linter.unusedVariables false
set_option linter.unusedSimpArgs false
theorem AG_225 : AG Tryz.prog 225 1 := ⟨Tryz.isAgg225, Tryz.sizeOf225⟩
theorem AG_282 : AG Tryz.prog 282 7 := ⟨Tryz.isAgg282, Tryz.sizeOf282⟩
theorem AG_39 : AG Tryz.prog 39 2 := ⟨Tryz.isAgg39, Tryz.sizeOf39⟩
theorem AG_42 : AG Tryz.prog 42 6 := ⟨Tryz.isAgg42, Tryz.sizeOf42⟩
theorem EN_167 : Enters Tryz.prog 167 := enters_of Tryz.func167 (by kernel_rfl) rfl
theorem EN_218 : Enters Tryz.prog 218 := enters_of Tryz.func218 (by kernel_rfl) rfl
theorem EN_220 : Enters Tryz.prog 220 := enters_of Tryz.func220 (by kernel_rfl) rfl
theorem EN_225 : Enters Tryz.prog 225 := enters_of Tryz.func225 (by kernel_rfl) rfl
theorem EN_226 : Enters Tryz.prog 226 := enters_of Tryz.func226 (by kernel_rfl) rfl
theorem EN_259 : Enters Tryz.prog 259 := enters_of Tryz.func259 (by kernel_rfl) rfl
theorem FA_225_0 : FA Tryz.prog 225 0 0 := fun ad w => by simp [Instr.fieldAt, run_underlying Tryz.underlying225, Instr.sureAddr, fieldPlace, Tryz.sizeOf223]
theorem FA_282_0 : FA Tryz.prog 282 0 0 := fun ad w => by simp [Instr.fieldAt, run_underlying Tryz.underlying282, Instr.sureAddr, fieldPlace, Tryz.sizeOf42]
theorem FA_282_1 : FA Tryz.prog 282 1 6 := fun ad w => by simp [Instr.fieldAt, run_underlying Tryz.underlying282, Instr.sureAddr, fieldPlace, Tryz.sizeOf3]
theorem FA_42_0 : FA Tryz.prog 42 0 0 := fun ad w => by simp [Instr.fieldAt, run_underlying Tryz.underlying42, Instr.sureAddr, fieldPlace, Tryz.sizeOf39]
theorem NA_22 : NA Tryz.prog 22 := ⟨Tryz.isAgg22, Tryz.sizeOf22⟩
theorem NA_223 : NA Tryz.prog 223 := ⟨Tryz.isAgg223, Tryz.sizeOf223⟩
theorem NA_279 : NA Tryz.prog 279 := ⟨Tryz.isAgg279, Tryz.sizeOf279⟩
theorem NA_3 : NA Tryz.prog 3 := ⟨Tryz.isAgg3, Tryz.sizeOf3⟩
theorem ST_22 : ST Tryz.prog 22 42 6 := ⟨Tryz.underlying22, Tryz.sizeOf42⟩
theorem ST_279 : ST Tryz.prog 279 282 7 := ⟨Tryz.underlying279, Tryz.sizeOf282⟩
theorem ZT_279 : ZT Tryz.prog 279 (.slice none 0 0) 1 24 := by unfold ZT; kernel_rfl
theorem ZT_282 : ZT Tryz.prog 282 (.agg #[.int .i64 0, .int .i64 0, .int .i64 0, .int .i64 0, .int .i64 0, .int .i32 0, .int .i64 0]) 7 56 := by unfold ZT; kernel_rfl
theorem ZT_42 : ZT Tryz.prog 42 (.agg #[.int .i64 0, .int .i64 0, .int .i64 0, .int .i64 0, .int .i64 0, .int .i32 0]) 6 48 := by unfold ZT; kernel_rfl
set_option maxRecDepth 20000 in
/-- redpencil/walk.first -/
theorem firstF (a b : Nd) (w : World) : Ct Tryz.prog 224 #[nv a, nv b] [] w (fun u hs => u = .int .i64 (fcmp a b) ∧ hs = []) := by
  refine Ct.intro Tryz.func224 rfl Tryz.ntmps224 rfl ?_
  refine WA.seq ?_
  refine WA.region ?_
  refine WR.dw (G0 rfl) rfl rfl (.box (vs := [_, _, _, _, _, _]) rfl rfl rfl) ?_
  rintro _ _ ⟨b2, rfl, rfl⟩
  refine WR.dw (G0 rfl) rfl rfl (.box (vs := [_, _, _, _, _, _]) rfl rfl rfl) ?_
  rintro _ _ ⟨b4, rfl, rfl⟩
  refine WR.val (G0 rfl) rfl rfl (.assign rfl rfl) ?_
  refine WR.nil ?_
  refine WA.seq ?_
  refine WA.block ?_
  refine WA.seq ?_
  refine WA.region ?_
  refine WR.val (G0 rfl) rfl rfl (.loadK (vs := [_, _, _, _, _, _]) rfl AG_42 rfl (fun _ hw => hw.rd_blk (k := 6) 1 rfl rfl)) ?_
  refine WR.val (G0 rfl) rfl rfl (.loadK (vs := [_, _, _, _, _, _]) rfl AG_42 rfl (fun _ hw => hw.rd_blk (k := 6) 0 rfl rfl)) ?_
  refine WR.dw (G0 rfl) rfl rfl (.callv (caps := []) rfl rfl rfl EN_259 (fun w hw => beforeF _ _ w)) ?_
  rintro _ _ ⟨rfl, rfl⟩
  refine WR.val (G0 rfl) rfl rfl (.assign rfl rfl) ?_
  refine WR.nil ?_
  refine WA.cond rfl (fun h6 => ?_) (fun h6 => ?_)
  · have f7 := h6
    try simp only [decide_eq_true_eq, decide_eq_false_iff_not, Bool.not_eq_true', Bool.not_eq_false', Int.not_lt, Int.not_le] at f7
    refine WA.seq ?_
    refine WA.region ?_
    refine WR.val (G0 rfl) rfl rfl (.assign rfl rfl) ?_
    refine WR.nil ?_
    exact WA.ret1 rfl rfl (List.nil_sublist _) ⟨by simp_all [fcmp], rfl⟩
  · have f8 := h6
    try simp only [decide_eq_true_eq, decide_eq_false_iff_not, Bool.not_eq_true', Bool.not_eq_false', Int.not_lt, Int.not_le] at f8
    refine WA.seq ?_
    refine WA.region ?_
    refine WR.val (G0 rfl) rfl rfl (.loadK (vs := [_, _, _, _, _, _]) rfl AG_42 rfl (fun _ hw => hw.rd_blk (k := 6) 0 rfl rfl)) ?_
    refine WR.val (G0 rfl) rfl rfl (.loadK (vs := [_, _, _, _, _, _]) rfl AG_42 rfl (fun _ hw => hw.rd_blk (k := 6) 1 rfl rfl)) ?_
    refine WR.dw (G0 rfl) rfl rfl (.callv (caps := []) rfl rfl rfl EN_259 (fun w hw => beforeF _ _ w)) ?_
    rintro _ _ ⟨rfl, rfl⟩
    refine WR.val (G0 rfl) rfl rfl (.assign rfl rfl) ?_
    refine WR.nil ?_
    refine WA.cond rfl (fun h10 => ?_) (fun h10 => ?_)
    · have f11 := h10
      try simp only [decide_eq_true_eq, decide_eq_false_iff_not, Bool.not_eq_true', Bool.not_eq_false', Int.not_lt, Int.not_le] at f11
      refine WA.seq ?_
      refine WA.region ?_
      refine WR.val (G0 rfl) rfl rfl (.assign rfl rfl) ?_
      refine WR.nil ?_
      exact WA.ret1 rfl rfl (List.nil_sublist _) ⟨by simp_all [fcmp], rfl⟩
    · have f12 := h10
      try simp only [decide_eq_true_eq, decide_eq_false_iff_not, Bool.not_eq_true', Bool.not_eq_false', Int.not_lt, Int.not_le] at f12
      refine WA.skip ?_
      refine WA.mark ?_
      refine WA.seq ?_
      refine WA.region ?_
      refine WR.val (G0 rfl) rfl rfl (.assign rfl rfl) ?_
      refine WR.nil ?_
      exact WA.ret1 rfl rfl (List.nil_sublist _) ⟨by simp_all [fcmp], rfl⟩
theorem sortNF (l : List Nd) (A : Option Addr) (cap : Nat) (w : World) (hl : l.length ≤ 1000000) : Ct Tryz.prog 223 #[.slice A l.length cap, .func (.func 224) #[] #[]] [En.row A l.length cap 42 6 (l.flatMap nc)] w (fun u hs => u = .tuple #[] ∧ ∃ l' : List Nd, l'.Perm l ∧ l'.Pairwise (fun x y => ¬ fcmp y x < 0) ∧ hs = [En.row A l'.length cap 42 6 (l'.flatMap nc)]) :=
  sortCt Sl.laysortN 6 Tryz.isAgg42 Tryz.sizeOf42 nc (fun _ => rfl) one_nc fcmp swo_fcmp 224 (enters_of Tryz.func224 (by kernel_rfl) rfl) (fun x y W => firstF x y W) l A cap 42 hl w
set_option maxRecDepth 20000 in
/-- slices.Backward[[]redpencil/api.Node,redpencil/api.Node] -/
theorem backF (A : Option Addr) (n cap : Nat) (w : World) : Ct Tryz.prog 167 #[.slice A n cap] [] w (fun u hs => ∃ b, u = .func (.func 218) #[] #[.pointer (some ⟨b, 0, none⟩)] ∧ hs = [En.blk b [.slice A n cap] 22]) := by
  refine Ct.intro Tryz.func167 rfl Tryz.ntmps167 rfl ?_
  refine WA.seq ?_
  refine WA.region ?_
  refine WR.dw (G0 rfl) rfl rfl (.box (vs := [_]) rfl rfl rfl) ?_
  rintro _ _ ⟨b2, rfl, rfl⟩
  refine WR.val (G0 rfl) rfl rfl (.assign rfl rfl) ?_
  refine WR.nil ?_
  refine WA.seq ?_
  refine WA.region ?_
  refine WR.val (G0 rfl) rfl rfl (.makeFunc1 rfl rfl) ?_
  refine WR.val (G0 rfl) rfl rfl (.assign rfl rfl) ?_
  refine WR.nil ?_
  exact WA.ret1 rfl rfl (.refl _) ⟨_, rfl, rfl⟩
set_option maxRecDepth 20000 in
/-- slices.Backward[[]redpencil/api.Node,redpencil/api.Node]$1 -/
theorem back1F (Stt : Nat → List En → Prop) (l : List Nd) (A : Option Addr) (cap b : Nat) (yv : Value) (T0 : List En) (w : World) (hl : l.length ≤ 1000000) (hS : SlN w A l) (hA : 0 < l.length → ∀ ad, A = some ad → ad.block ∉ foots (En.blk b [.slice A l.length cap] 22 :: T0)) (h0 : Stt 0 T0) (hY : ∀ (k : Nat) (T : List En) (W : World) (i : Int), i = (l.length : Int) - 1 - k → 0 ≤ i → Stt k T → Cv Tryz.prog yv [.int .i64 i, nv (gx l i)] T W (fun u hs => u = .bool true ∧ Stt (k + 1) hs)) : Ct Tryz.prog 218 #[yv, .pointer (some ⟨b, 0, none⟩)] (En.blk b [.slice A l.length cap] 22 :: T0) w (fun u hs => ∃ T, hs = En.blk b [.slice A l.length cap] 22 :: T ∧ Stt l.length T) := by
  refine Ct.intro Tryz.func218 rfl Tryz.ntmps218 rfl ?_
  refine WA.seq ?_
  refine WA.region ?_
  refine WR.val (G0 rfl) rfl rfl (.load1 rfl NA_22 rfl (fun _ hw => hw.rd_blk (k := 1) 0 rfl rfl)) ?_
  refine WR.val (G0 rfl) rfl rfl (.len rfl ST_22.1 rfl) ?_
  refine WR.val (G0 rfl) rfl rfl (.sub rfl rfl rfl (by omega) (by omega)) ?_
  refine WR.val (G0 rfl) rfl rfl (.assign rfl rfl) ?_
  refine WR.nil ?_
  refine WA.block ?_
  refine WA.loopT (γ := Int × Nat × List En) [(0, _), (1, _)] (fun q => [(3, .int .i64 q.1)]) (fun q => (En.blk b [.slice A l.length cap] 22 :: q.2.2)) (fun q => q.1 = (l.length : Int) - 1 - q.2.1 ∧ q.2.1 ≤ l.length ∧ Stt q.2.1 q.2.2) (fun q => l.length - q.2.1) ((l.length : Int) - 1, 0, T0) (.cons rfl (.cons rfl (.nil _))) (.cons rfl (.nil _)) (.refl _) ⟨by simp, by simp, h0⟩ ?_
  intro q hk
  obtain ⟨hi, hk, hSt⟩ := hk
  refine WA.seq ?_
  refine WA.seq ?_
  refine WA.region ?_
  refine WR.val (G0 rfl) rfl rfl (.move rfl rfl) ?_
  refine WR.val (G0 rfl) rfl rfl (.geq rfl rfl rfl) ?_
  refine WR.nil ?_
  refine WA.cond rfl (fun h2 => ?_) (fun h2 => ?_)
  · have f3 := h2
    try simp only [decide_eq_true_eq, decide_eq_false_iff_not, Bool.not_eq_true', Bool.not_eq_false', Int.not_lt, Int.not_le] at f3
    refine WA.skip ?_
    refine WA.seq ?_
    refine WA.block ?_
    refine WA.seq ?_
    refine WA.region ?_
    refine WR.val (G0 rfl) rfl rfl (.move rfl rfl) ?_
    refine WR.val (G0 rfl) rfl rfl (.move rfl rfl) ?_
    refine WR.val (G0 rfl) rfl rfl (.load1 rfl NA_22 rfl (fun _ hw => hw.rd_blk (k := 1) 0 rfl rfl)) ?_
    refine WR.val (G0 rfl) rfl rfl (.move rfl rfl) ?_
    refine WR.val (G0 rfl) rfl rfl (.ix rfl ST_22 rfl rfl (by omega) (by omega) (fun _ hw hn => (hw.slfM hS hA).some_ hn)) ?_
    refine WR.val (G0 rfl) rfl rfl (.loadK (vs := [_, _, _, _, _, _]) rfl AG_42 rfl (fun _ hw => rdN (hw.slfM hS hA) (by omega) (by omega))) ?_
    refine WR.callY (G0 rfl) rfl rfl rfl rfl rfl (List.perm_append_comm (l₁ := [_]) (l₂ := q.2.2)) (fun w hw => hY q.2.1 q.2.2 w q.1 (by omega) (by omega) hSt) ?_
    rintro _ T4 ⟨rfl, hT5⟩
    refine WR.perm' (List.perm_append_comm (l₁ := T4) (l₂ := [_])) ?_
    refine WR.val (G0 rfl) rfl rfl (.not rfl rfl) ?_
    refine WR.nil ?_
    refine WA.cond_f rfl rfl ?_
    refine WA.skip ?_
    refine WA.mark ?_
    refine WA.region ?_
    refine WR.val (G0 rfl) rfl rfl (.move rfl rfl) ?_
    refine WR.val (G0 rfl) rfl rfl (.sub rfl rfl rfl (by omega) (by omega)) ?_
    refine WR.val (G0 rfl) rfl rfl (.assign rfl rfl) ?_
    refine WR.nil ?_
    exact WA.roundT (q.1 - 1, q.2.1 + 1, T4) (.cons rfl (.cons rfl (.nil _))) (.cons rfl (.nil _)) (.refl _) ⟨by dsimp only; omega, by dsimp only; omega, hT5⟩ (by dsimp only; omega)
  · have f7 := h2
    try simp only [decide_eq_true_eq, decide_eq_false_iff_not, Bool.not_eq_true', Bool.not_eq_false', Int.not_lt, Int.not_le] at f7
    refine WA.exit rfl ?_
    have hE : q.2.1 = l.length := by omega
    rw [hE] at hSt
    exact WA.end0 rfl (.refl _) ⟨_, rfl, hSt⟩
set_option maxRecDepth 20000 in
/-- (redpencil/walk.families).of -/
theorem ofF (w : World) (p : Nat) (E : Option Addr) (cap : Nat) (fs : List Fam) (hM : Rd w ⟨p, 0, none⟩ [.func (.func 107) #[] #[], .slice E (ents fs).length cap]) (d : Dot) (hE : SlE w E (ents fs)) (hl : fs.length ≤ 900000) (hs : ksorted (ents fs)) : Ct Tryz.prog 226 #[.agg #[.pointer (some ⟨p, 0, none⟩)], dv d] [] w (fun u hs => u = .slice (underA fs d) (under fs d).length (underC fs d) ∧ hs = []) := by
  refine Ct.intro Tryz.func226 rfl Tryz.ntmps226 rfl ?_
  refine WA.seq ?_
  refine WA.region ?_
  refine WR.dw (G0 rfl) rfl rfl (.box (vs := [_]) rfl rfl rfl) ?_
  rintro _ _ ⟨b2, rfl, rfl⟩
  refine WR.dw (G0 rfl) rfl rfl (.box (vs := [_, _]) rfl rfl rfl) ?_
  rintro _ _ ⟨b4, rfl, rfl⟩
  refine WR.val (G0 rfl) rfl rfl (.assign rfl rfl) ?_
  refine WR.nil ?_
  refine WA.seq ?_
  refine WA.region ?_
  refine WR.val (G0 rfl) rfl rfl (.fa rfl FA_225_0 rfl) ?_
  refine WR.val (G0 rfl) rfl rfl (.load1 rfl NA_223 rfl (fun _ hw => hw.rd_blk (k := 1) 1 rfl rfl)) ?_
  refine WR.val (G0 rfl) rfl rfl (.loadK (vs := [_, _]) rfl AG_39 rfl (fun _ hw => hw.rd_blk (k := 2) 0 rfl rfl)) ?_
  refine WR.dw (G0 rfl) rfl rfl (.callv (caps := []) rfl rfl rfl EN_220 (fun w hw => getF _ p E cap (ents fs) (hw.rdx (k := 2) hM rfl) d (hw.slf0 hE) (by simp; omega) hs)) ?_
  rintro _ _ ⟨rfl, rfl⟩
  refine WR.val (G0 rfl) rfl rfl (.move rfl rfl) ?_
  refine WR.val (G0 rfl) rfl rfl (.extract (vs := [_, _]) rfl rfl rfl) ?_
  refine WR.val (G0 rfl) rfl rfl (.extract (vs := [_, _]) rfl rfl rfl) ?_
  refine WR.val (G0 rfl) rfl rfl (.assign rfl rfl) ?_
  refine WR.val (G0 rfl) rfl rfl (.assign rfl rfl) ?_
  refine WR.nil ?_
  refine WA.seq ?_
  refine WA.region ?_
  refine WR.val (G0 rfl) rfl rfl (.move rfl rfl) ?_
  refine WR.val (G0 rfl) rfl rfl (.assign rfl rfl) ?_
  refine WR.nil ?_
  exact WA.ret1 rfl rfl (List.nil_sublist _) ⟨under_val fs d, rfl⟩
set_option maxRecDepth 20000 in
/-- (redpencil/walk.families).below$1 -/
theorem pushF (p : Nat) (E : Option Addr) (cap : Nat) (fs : List Fam) (tb fb : Nat) (TA : Option Addr) (tc : Nat) (todo : List St) (d : Dot) (dep : Int) (w : World) (hl : fs.length ≤ 900000) (hs : ksorted (ents fs)) (hu : (under fs d).length ≤ 1000000) (ht : todo.length ≤ 1000000) : Ct Tryz.prog 225 #[dv d, .int .i64 dep, .pointer (some ⟨fb, 0, none⟩), .pointer (some ⟨tb, 0, none⟩)] (En.blk tb [.slice TA (todo).length tc] 279 :: En.row TA (todo).length tc 282 7 ((todo).flatMap sc) :: En.blk fb [.pointer (some ⟨p, 0, none⟩)] 225 :: En.blk p [.func (.func 107) #[] #[], .slice E (ents fs).length cap] 311 :: En.row E (ents fs).length cap 314 3 ((ents fs).flatMap ec) :: fs.map (Fam.row 42)) w (fun u hs => ∃ TA' tc', hs = En.blk tb [.slice TA' ((todo ++ (under fs d).reverse.map (fun n => (n, dep)))).length tc'] 279 :: En.row TA' ((todo ++ (under fs d).reverse.map (fun n => (n, dep)))).length tc' 282 7 (((todo ++ (under fs d).reverse.map (fun n => (n, dep)))).flatMap sc) :: En.blk fb [.pointer (some ⟨p, 0, none⟩)] 225 :: En.blk p [.func (.func 107) #[] #[], .slice E (ents fs).length cap] 311 :: En.row E (ents fs).length cap 314 3 ((ents fs).flatMap ec) :: fs.map (Fam.row 42)) := by
  refine Ct.intro Tryz.func225 rfl Tryz.ntmps225 rfl ?_
  refine WA.seq ?_
  refine WA.region ?_
  refine WR.dw (G0 rfl) rfl rfl (.box (vs := [_, _]) rfl rfl rfl) ?_
  rintro _ _ ⟨b2, rfl, rfl⟩
  refine WR.dw (G0 rfl) rfl rfl (.box (vs := [_]) rfl rfl rfl) ?_
  rintro _ _ ⟨b4, rfl, rfl⟩
  refine WR.nil ?_
  refine WA.seq ?_
  refine WA.region ?_
  refine WR.val (G0 rfl) rfl rfl (.loadK (vs := [_]) rfl AG_225 rfl (fun _ hw => hw.rd_blk (k := 1) 4 rfl rfl)) ?_
  refine WR.val (G0 rfl) rfl rfl (.loadK (vs := [_, _]) rfl AG_39 rfl (fun _ hw => hw.rd_blk (k := 2) 1 rfl rfl)) ?_
  refine WR.dw (G0 rfl) rfl rfl (.callv (caps := []) rfl rfl rfl EN_226 (fun w hw => ofF _ p E cap fs (hw.rd_blk (k := 2) 5 rfl rfl) d (hw.slf_row 6 rfl) hl hs)) ?_
  rintro _ _ ⟨rfl, rfl⟩
  refine WR.dw (G0 rfl) rfl rfl (.call0 (caps := []) rfl rfl rfl EN_167 (fun w hw => backF _ _ _ _)) ?_
  rintro _ _ ⟨_, ⟨v6, rfl, rfl⟩, rfl⟩
  refine WR.nil ?_
  refine WA.block ?_
  refine WA.front 1 rfl ?_
  refine WA.front 4 rfl ?_
  refine WA.front 4 rfl ?_
  refine WA.front 3 rfl ?_
  refine WA.rangeFunc (caps := [.pointer (some ⟨_, 0, none⟩)]) (post' := (fun hs => ∃ TA' tc', hs = [En.blk v6 [.slice (underA fs d) (under fs d).length (underC fs d)] 22, En.blk tb [.slice TA' (todo ++ (under fs d).reverse.map (fun n => (n, dep))).length tc'] 279, En.row TA' (todo ++ (under fs d).reverse.map (fun n => (n, dep))).length tc' 282 7 ((todo ++ (under fs d).reverse.map (fun n => (n, dep))).flatMap sc), En.blk b4 [.int .i64 dep] 3])) (own := [_, _, _, _]) rfl EN_218 (.refl _) (fun D lp rec hrec w hw => ?_) (fun D hs hp => ?_)
  · have hY : ∀ (k : Nat) (T : List En) (W : World) (i : Int), i = ((under fs d).length : Int) - 1 - k → 0 ≤ i → (∃ TA' tc', T = [En.lp lp rec, En.blk tb [.slice TA' (todo ++ ((under fs d).reverse.take k).map (fun n => (n, dep))).length tc'] 279, En.row TA' (todo ++ ((under fs d).reverse.take k).map (fun n => (n, dep))).length tc' 282 7 ((todo ++ ((under fs d).reverse.take k).map (fun n => (n, dep))).flatMap sc), En.blk b4 [.int .i64 dep] 3]) → Cv Tryz.prog (.func (.yield lp) #[] #[]) [.int .i64 i, nv (gx (under fs d) i)] T W (fun u T => u = .bool true ∧ (∃ TA' tc', T = [En.lp lp rec, En.blk tb [.slice TA' (todo ++ ((under fs d).reverse.take (k + 1)).map (fun n => (n, dep))).length tc'] 279, En.row TA' (todo ++ ((under fs d).reverse.take (k + 1)).map (fun n => (n, dep))).length tc' 282 7 ((todo ++ ((under fs d).reverse.take (k + 1)).map (fun n => (n, dep))).flatMap sc), En.blk b4 [.int .i64 dep] 3])) := by
      intro k T W i hi h0 hSt
      have htb : (todo ++ ((under fs d).reverse.take k).map (fun n => (n, dep))).length ≤ 2000000 := by simp; omega
      obtain ⟨TA', tc', rfl⟩ := hSt
      refine Cv.yield _ (by rw [hrec.params]; rfl) (Ag.round2 hrec rfl rfl rfl) ?_
      rw [hrec.assign]
      refine WA.region ?_
      refine WR.dw (G0 rfl) rfl rfl (.alloc (vs := [_, _, _, _, _, _]) rfl ZT_42 rfl) ?_
      rintro _ _ ⟨b8, rfl, rfl⟩
      refine WR.dw0 (G0 rfl) rfl (.store (i := 0) rfl AG_42.2 rfl rfl [_, _, _, _, _, _] rfl rfl (by intro u hu; simp at hu; rcases hu with rfl | rfl | rfl | rfl | rfl | rfl <;> rfl) rfl rfl) ?_
      rintro _ _ ⟨rfl, rfl⟩
      refine WR.nil ?_
      refine WA.begun 1 rfl hrec.state hrec.body ?_
      refine WA.block ?_
      refine WA.region ?_
      refine WR.val (G0 rfl) rfl rfl (.load1 rfl NA_279 rfl (fun _ hw => hw.rd_blk (k := 1) 2 rfl rfl)) ?_
      refine WR.val (G0 rfl) rfl rfl (.loadK (vs := [_, _, _, _, _, _]) rfl AG_42 rfl (fun _ hw => hw.rd_blk (k := 6) 0 rfl rfl)) ?_
      refine WR.val (G0 rfl) rfl rfl (.load1 rfl NA_3 rfl (fun _ hw => hw.rd_blk (k := 1) 4 rfl rfl)) ?_
      refine WR.val (G0 rfl) rfl rfl (.build (vs := [_, _, _, _, _, _, _]) [.int .i64 0, .int .i64 0, .int .i64 0, .int .i64 0, .int .i64 0, .int .i32 0, .int .i64 0] [0, 6] rfl rfl rfl (fun _ => by kernel_rfl)) ?_
      refine WR.dw (G0 rfl) rfl rfl (.buildSlice (k := 7) (e := 282) (vs := [_, _, _, _, _, _, _]) rfl rfl rfl (fun _ => by kernel_rfl) rfl) ?_
      rintro _ _ ⟨b10, rfl, rfl⟩
      refine WR.dw (G0 rfl) rfl rfl (.append 4 rfl ST_279.1 ZT_282 rfl (by decide) rfl rfl rfl (fun _ hw => hw.slf_blk 0 rfl rfl (by simp [maxLen])) (by intro u hu; simp at hu; rcases hu with rfl | rfl | rfl | rfl | rfl | rfl | rfl <;> rfl) (by omega) (by omega)) ?_
      rintro _ _ ⟨A11, c12, rfl, rfl⟩
      refine WR.dw0 (G0 rfl) rfl (.store (i := 3) rfl NA_279.2 rfl rfl [_] rfl rfl (by intro u hu; simp at hu; subst hu; rfl) rfl rfl) ?_
      rintro _ _ ⟨rfl, rfl⟩
      refine WR.nil ?_
      refine WA.mark ?_
      obtain ⟨htl, htf⟩ := todo_succ (under fs d) todo dep k i hi h0
      exact WA.rounded 2 rfl hrec.state hrec.pending (.cons _ (.cons _ (.refl _))) ⟨rfl, ⟨_, _, by rw [htl, htf]; rfl⟩⟩
    have hC := back1F (fun k T => ∃ TA' tc', T = [En.lp lp rec, En.blk tb [.slice TA' (todo ++ ((under fs d).reverse.take k).map (fun n => (n, dep))).length tc'] 279, En.row TA' (todo ++ ((under fs d).reverse.take k).map (fun n => (n, dep))).length tc' 282 7 ((todo ++ ((under fs d).reverse.take k).map (fun n => (n, dep))).flatMap sc), En.blk b4 [.int .i64 dep] 3]) (under fs d) (underA fs d) (underC fs d) v6 (.func (.yield lp) #[] #[]) _ w hu (hw.under (fun f hf => (by repeat (first | exact List.mem_map_of_mem hf | apply List.mem_cons_of_mem))) d) (fun _ => Hold.under_apart (own := [_, _, _, _, _]) (hr := _) ((hw.less (List.sublist_cons_self _ _)).perm (.swap _ _ _)) (fun f hf => (by repeat (first | exact List.mem_map_of_mem hf | apply List.mem_cons_of_mem))) d) ⟨TA, tc, by simp⟩ hY
    refine (hC.perm (.swap _ _ _)).mono ?_
    rintro u hs ⟨T, rfl, TA', tc', rfl⟩
    rw [List.take_of_length_le (by simp)]
    exact ⟨_, .swap _ _ _, TA', tc', rfl⟩
  · obtain ⟨TA', tc', rfl⟩ := hp
    refine WA.mark ?_
    refine WA.endq ?_
    refine RT.undefer 0 rfl ?_
    exact RT.ret0 rfl (.cons _ (.cons_cons _ (.cons_cons _ (.cons _ (.cons _ (.refl _)))))) ⟨_, _, rfl⟩
set_option maxRecDepth 20000 in
/-- (redpencil/walk.families).below -/
theorem belowF (p : Nat) (E : Option Addr) (cap : Nat) (fs : List Fam) (l : List Nd) (yv : Value) (Stt : List Nd → List En → Prop) (T0 : List En) (w : World) (hl : fs.length ≤ 900000) (hs : ksorted (ents fs)) (hok : storeOk l = true) (hl' : l.length ≤ 1000000) (hk : ∀ d, under fs d = kids l d) (h0 : Stt [] T0) (hY : ∀ (out : List Nd) (n : Nd) (st : List Nd) (dep : Int) (T : List En) (W : World), Visit l out (n :: st) → Stt out T → Cv Tryz.prog yv [.int .i64 dep, nv n] T W (fun u hs => u = .bool true ∧ Stt (out ++ [n]) hs)) : Ct Tryz.prog 171 #[.agg #[.pointer (some ⟨p, 0, none⟩)], dv rt, .int .i64 0, yv] (En.blk p [.func (.func 107) #[] #[], .slice E (ents fs).length cap] 311 :: En.row E (ents fs).length cap 314 3 ((ents fs).flatMap ec) :: (fs.map (Fam.row 42) ++ T0)) w (fun u hs => ∃ T, hs = En.blk p [.func (.func 107) #[] #[], .slice E (ents fs).length cap] 311 :: En.row E (ents fs).length cap 314 3 ((ents fs).flatMap ec) :: (fs.map (Fam.row 42) ++ T) ∧ Stt (order l) T) := by
  refine Ct.intro Tryz.func171 rfl Tryz.ntmps171 rfl ?_
  refine WA.seq ?_
  refine WA.region ?_
  refine WR.dw (G0 rfl) rfl rfl (.box (vs := [_]) rfl rfl rfl) ?_
  rintro _ _ ⟨b2, rfl, rfl⟩
  refine WR.dw (G0 rfl) rfl rfl (.box (vs := [_, _]) rfl rfl rfl) ?_
  rintro _ _ ⟨b4, rfl, rfl⟩
  refine WR.nil ?_
  refine WA.seq ?_
  refine WA.region ?_
  refine WR.dw (G0 rfl) rfl rfl (.alloc (vs := [_]) rfl ZT_279 rfl) ?_
  rintro _ _ ⟨b6, rfl, rfl⟩
  refine WR.nilrow 282 7 ?_
  refine WR.nil ?_
  refine WA.seq ?_
  refine WA.region ?_
  refine WR.val (G0 rfl) rfl rfl (.makeFunc2 rfl rfl rfl) ?_
  refine WR.val (G0 rfl) rfl rfl (.assign rfl rfl) ?_
  refine WR.nil ?_
  refine WA.seq ?_
  refine WA.region ?_
  refine WR.val (G0 rfl) rfl rfl (.move rfl rfl) ?_
  refine WR.val (G0 rfl) rfl rfl (.loadK (vs := [_, _]) rfl AG_39 rfl (fun _ hw => hw.rd_blk (k := 2) 2 rfl rfl)) ?_
  refine WR.val (G0 rfl) rfl rfl (.move rfl rfl) ?_
  refine WR.perm' (perm_pick (i := 5) rfl) ?_
  refine WR.perm' (perm_pick (i := 5) rfl) ?_
  refine WR.perm' (perm_pick (i := 5) rfl) ?_
  refine WR.perm' (perm_pick (i := 3) rfl) ?_
  refine WR.perm' (perm_pick (i := 4) rfl) ?_
  refine WR.perm' (perm_pick (i := 5) rfl) ?_
  refine WR.dw (G0 rfl) rfl rfl (.call (own := En.blk b6 [.slice none (([] : List St)).length 0] 279 :: En.row none (([] : List St)).length 0 282 7 ((([] : List St)).flatMap sc) :: En.blk b2 [.pointer (some ⟨p, 0, none⟩)] 225 :: En.blk p [.func (.func 107) #[] #[], .slice E (ents fs).length cap] 311 :: En.row E (ents fs).length cap 314 3 ((ents fs).flatMap ec) :: fs.map (Fam.row 42)) (hr := [_] ++ T0) (caps := [.pointer (some ⟨_, 0, none⟩), .pointer (some ⟨_, 0, none⟩)]) rfl rfl rfl EN_225 (List.perm_append_comm_assoc [_] (En.blk b6 [.slice none (([] : List St)).length 0] 279 :: En.row none (([] : List St)).length 0 282 7 ((([] : List St)).flatMap sc) :: En.blk b2 [.pointer (some ⟨p, 0, none⟩)] 225 :: En.blk p [.func (.func 107) #[] #[], .slice E (ents fs).length cap] 311 :: En.row E (ents fs).length cap 314 3 ((ents fs).flatMap ec) :: fs.map (Fam.row 42)) (T0)) (fun w hw => pushF p E cap fs b6 b2 none 0 (([] : List St)) rt 0 w hl hs (by rw [hk]; exact Nat.le_trans (kids_len l _) hl') (by simp))) ?_
  rintro _ _ ⟨_, ⟨TA7, tc8, rfl⟩, rfl⟩
  refine WR.perm' (List.perm_append_comm_assoc _ [_] _) ?_
  refine WR.nil ?_
  refine WA.block ?_
  refine WA.front 5 rfl ?_
  refine WA.front 5 rfl ?_
  refine WA.front 5 rfl ?_
  refine WA.front 5 rfl ?_
  refine WA.front 5 rfl ?_
  refine WA.loopT (γ := Option Addr × Nat × List St × List Nd × List En) [(3, _), (8, _), (9, _)] (fun q => []) (fun q => (En.blk b6 [.slice q.1 q.2.2.1.length q.2.1] 279 :: En.row q.1 q.2.2.1.length q.2.1 282 7 (q.2.2.1.flatMap sc) :: En.blk b2 [.pointer (some ⟨p, 0, none⟩)] 225 :: En.blk p [.func (.func 107) #[] #[], .slice E (ents fs).length cap] 311 :: En.row E (ents fs).length cap 314 3 ((ents fs).flatMap ec) :: (fs.map (Fam.row 42) ++ q.2.2.2.2))) (fun q => Visit l q.2.2.2.1 (stk q.2.2.1) ∧ (∀ x ∈ q.2.2.1, 0 ≤ x.2 ∧ x.2 ≤ q.2.2.2.1.length) ∧ Stt q.2.2.2.1 q.2.2.2.2) (fun q => l.length - q.2.2.2.1.length + q.2.2.1.length * 0) (TA7, tc8, [] ++ (under fs rt).reverse.map (fun n => (n, 0)), [], T0) (.cons rfl (.cons rfl (.cons rfl (.nil _)))) (.nil _) (.cons_cons _ (.cons_cons _ (.cons_cons _ (.cons_cons _ (.cons_cons _ (.cons _ (.refl _))))))) ⟨by rw [stk_push, hk]; simpa [stk] using Visit.start (storeOk_dd hok), by intro x hx; simp at hx; obtain ⟨_, _, rfl⟩ := hx; simp, h0⟩ ?_
  intro q hk0
  obtain ⟨hv, hdp, hSt⟩ := hk0
  have hvl := hv.len
  have hsl : (stk q.2.2.1).length = q.2.2.1.length := by simp [stk]
  refine WA.seq ?_
  refine WA.seq ?_
  refine WA.region ?_
  refine WR.val (G0 rfl) rfl rfl (.load1 rfl NA_279 rfl (fun _ hw => hw.rd_blk (k := 1) 0 rfl rfl)) ?_
  refine WR.val (G0 rfl) rfl rfl (.len rfl ST_279.1 rfl) ?_
  refine WR.val (G0 rfl) rfl rfl (.gtr rfl rfl rfl) ?_
  refine WR.nil ?_
  refine WA.cond rfl (fun h10 => ?_) (fun h10 => ?_)
  · have f11 := h10
    try simp only [decide_eq_true_eq, decide_eq_false_iff_not, Bool.not_eq_true', Bool.not_eq_false', Int.not_lt, Int.not_le] at f11
    refine WA.skip ?_
    refine WA.block ?_
    refine WA.seq ?_
    have hpos : 0 < q.2.2.1.length := by omega
    have hv' : Visit l q.2.2.2.1 ((gx q.2.2.1 ((q.2.2.1.length : Int) - 1)).1 :: stk (q.2.2.1.take (q.2.2.1.length - 1))) := by rw [← stk_pop _ hpos]; exact hv
    have hx0 := hdp _ (gx_mem (l := q.2.2.1) (i := (q.2.2.1.length : Int) - 1) (by omega) (by omega))
    refine WA.region ?_
    refine WR.val (G0 rfl) rfl rfl (.load1 rfl NA_279 rfl (fun _ hw => hw.rd_blk (k := 1) 0 rfl rfl)) ?_
    refine WR.val (G0 rfl) rfl rfl (.load1 rfl NA_279 rfl (fun _ hw => hw.rd_blk (k := 1) 0 rfl rfl)) ?_
    refine WR.val (G0 rfl) rfl rfl (.len rfl ST_279.1 rfl) ?_
    refine WR.val (G0 rfl) rfl rfl (.sub rfl rfl rfl (by omega) (by omega)) ?_
    refine WR.val (G0 rfl) rfl rfl (.ix rfl ST_279 rfl rfl (by omega) (by omega) (fun _ hw hn => (hw.slf_row 1 rfl).some_ hn)) ?_
    refine WR.val (G0 rfl) rfl rfl (.loadK (vs := [_, _, _, _, _, _, _]) rfl AG_282 rfl (fun _ hw => rdS (hw.slf_row 1 rfl) (by omega) (by omega))) ?_
    refine WR.dw (G0 rfl) rfl rfl (.alloc (vs := [_, _, _, _, _, _, _]) rfl ZT_282 rfl) ?_
    rintro _ _ ⟨b13, rfl, rfl⟩
    refine WR.dw0 (G0 rfl) rfl (.store (i := 0) rfl AG_282.2 rfl rfl [_, _, _, _, _, _, _] rfl rfl (by intro u hu; simp at hu; rcases hu with rfl | rfl | rfl | rfl | rfl | rfl | rfl <;> rfl) rfl rfl) ?_
    rintro _ _ ⟨rfl, rfl⟩
    refine WR.nil ?_
    refine WA.seq ?_
    refine WA.rowcap 2 rfl (fun hcap => ?_)
    refine WA.region ?_
    refine WR.val (G0 rfl) rfl rfl (.load1 rfl NA_279 rfl (fun _ hw => hw.rd_blk (k := 1) 1 rfl rfl)) ?_
    refine WR.val (G0 rfl) rfl rfl (.load1 rfl NA_279 rfl (fun _ hw => hw.rd_blk (k := 1) 1 rfl rfl)) ?_
    refine WR.val (G0 rfl) rfl rfl (.len rfl ST_279.1 rfl) ?_
    refine WR.val (G0 rfl) rfl rfl (.sub rfl rfl rfl (by omega) (by omega)) ?_
    refine WR.val (G0 rfl) rfl rfl (.slice_h rfl ST_279 rfl rfl (by omega) (by omega)) ?_
    refine WR.dw0 (G0 rfl) rfl (.store (i := 1) rfl NA_279.2 rfl rfl [_] rfl rfl (by intro u hu; simp at hu; subst hu; rfl) rfl rfl) ?_
    rintro _ _ ⟨rfl, rfl⟩
    refine WR.nil ?_
    refine WA.seq ?_
    refine WA.seq ?_
    refine WA.blkeq 1 rfl [.slice q.1 (q.2.2.1.take (q.2.2.1.length - 1)).length q.2.1] (by rw [show ((q.2.2.1.length : Int) - 1).toNat = (q.2.2.1.take (q.2.2.1.length - 1)).length by rw [List.length_take]; omega]; rfl) ?_
    refine WA.cutrow 2 (q.2.2.1.length - 1) rfl (by omega) ?_
    refine WA.roweq 2 rfl (q.2.2.1.take (q.2.2.1.length - 1)).length ((q.2.2.1.take (q.2.2.1.length - 1)).flatMap sc) (by rw [List.length_take]; omega) (by rw [flat_take (enc := sc) (k := 7) (fun _ => rfl)]) ?_
    refine WA.region ?_
    refine WR.val (G0 rfl) rfl rfl (.move rfl rfl) ?_
    refine WR.val (G0 rfl) rfl rfl (.fa rfl FA_282_1 rfl) ?_
    refine WR.val (G0 rfl) rfl rfl (.load1 rfl NA_3 rfl (fun _ hw => hw.rd_blk (k := 1) 0 rfl rfl)) ?_
    refine WR.val (G0 rfl) rfl rfl (.fa rfl FA_282_0 rfl) ?_
    refine WR.val (G0 rfl) rfl rfl (.loadK (vs := [_, _, _, _, _, _]) rfl AG_42 rfl (fun _ hw => hw.rd_blk (k := 6) 0 rfl rfl)) ?_
    refine WR.callY (G0 rfl) rfl rfl rfl rfl rfl (List.perm_append_comm (l₁ := [_, _, _, _, _, _] ++ fs.map (Fam.row 42)) (l₂ := q.2.2.2.2)) (fun w hw => hY q.2.2.2.1 _ _ _ q.2.2.2.2 w hv' hSt) ?_
    rintro _ T14 ⟨rfl, hT15⟩
    refine WR.perm' (List.perm_append_comm (l₁ := T14) (l₂ := [_, _, _, _, _, _] ++ fs.map (Fam.row 42))) ?_
    refine WR.val (G0 rfl) rfl rfl (.not rfl rfl) ?_
    refine WR.nil ?_
    refine WA.cond_f rfl rfl ?_
    refine WA.skip ?_
    refine WA.region ?_
    refine WR.val (G0 rfl) rfl rfl (.move rfl rfl) ?_
    refine WR.val (G0 rfl) rfl rfl (.fa rfl FA_282_0 rfl) ?_
    refine WR.val (G0 rfl) rfl rfl (.fa rfl FA_42_0 rfl) ?_
    refine WR.val (G0 rfl) rfl rfl (.loadK (vs := [_, _]) rfl AG_39 rfl (fun _ hw => hw.rd_blk (k := 2) 0 rfl rfl)) ?_
    refine WR.val (G0 rfl) rfl rfl (.fa rfl FA_282_1 rfl) ?_
    refine WR.val (G0 rfl) rfl rfl (.load1 rfl NA_3 rfl (fun _ hw => hw.rd_blk (k := 1) 0 rfl rfl)) ?_
    refine WR.val (G0 rfl) rfl rfl (.add rfl rfl rfl (by omega) (by omega)) ?_
    refine WR.perm' (perm_pick (i := 5) rfl) ?_
    refine WR.perm' (perm_pick (i := 5) rfl) ?_
    refine WR.perm' (perm_pick (i := 5) rfl) ?_
    refine WR.perm' (perm_pick (i := 5) rfl) ?_
    refine WR.perm' (perm_pick (i := 5) rfl) ?_
    refine WR.perm' (perm_pick (i := 5) rfl) ?_
    refine WR.dw (G0 rfl) rfl rfl (.call (own := En.blk b6 [.slice q.1 ((q.2.2.1.take (q.2.2.1.length - 1))).length q.2.1] 279 :: En.row q.1 ((q.2.2.1.take (q.2.2.1.length - 1))).length q.2.1 282 7 (((q.2.2.1.take (q.2.2.1.length - 1))).flatMap sc) :: En.blk b2 [.pointer (some ⟨p, 0, none⟩)] 225 :: En.blk p [.func (.func 107) #[] #[], .slice E (ents fs).length cap] 311 :: En.row E (ents fs).length cap 314 3 ((ents fs).flatMap ec) :: fs.map (Fam.row 42)) (hr := [_] ++ T14) (caps := [.pointer (some ⟨_, 0, none⟩), .pointer (some ⟨_, 0, none⟩)]) rfl rfl rfl EN_225 (List.perm_append_comm_assoc [_] (En.blk b6 [.slice q.1 ((q.2.2.1.take (q.2.2.1.length - 1))).length q.2.1] 279 :: En.row q.1 ((q.2.2.1.take (q.2.2.1.length - 1))).length q.2.1 282 7 (((q.2.2.1.take (q.2.2.1.length - 1))).flatMap sc) :: En.blk b2 [.pointer (some ⟨p, 0, none⟩)] 225 :: En.blk p [.func (.func 107) #[] #[], .slice E (ents fs).length cap] 311 :: En.row E (ents fs).length cap 314 3 ((ents fs).flatMap ec) :: fs.map (Fam.row 42)) (T14)) (fun w hw => pushF p E cap fs b6 b2 q.1 q.2.1 ((q.2.2.1.take (q.2.2.1.length - 1))) (gx q.2.2.1 ((q.2.2.1.length : Int) - 1)).1.d ((gx q.2.2.1 ((q.2.2.1.length : Int) - 1)).2 + 1) w hl hs (by rw [hk]; exact Nat.le_trans (kids_len l _) hl') (by rw [List.length_take]; omega))) ?_
    rintro _ _ ⟨_, ⟨TA17, tc18, rfl⟩, rfl⟩
    refine WR.perm' (List.perm_append_comm_assoc _ [_] _) ?_
    refine WR.nil ?_
    refine WA.mark ?_
    exact WA.roundT (TA17, tc18, (q.2.2.1.take (q.2.2.1.length - 1)) ++ (under fs (gx q.2.2.1 ((q.2.2.1.length : Int) - 1)).1.d).reverse.map (fun n => (n, (gx q.2.2.1 ((q.2.2.1.length : Int) - 1)).2 + 1)), q.2.2.2.1 ++ [(gx q.2.2.1 ((q.2.2.1.length : Int) - 1)).1], T14) (.cons rfl (.cons rfl (.cons rfl (.nil _)))) (.nil _) (.cons _ (.refl _)) ⟨by dsimp only; rw [stk_push, hk]; exact hv'.step (storeOk_dd hok) (storeOk_rt hok), step_dep hdp hx0, hT15⟩ (by dsimp only; have := hv'.len; simp at this ⊢; omega)
  · have f19 := h10
    try simp only [decide_eq_true_eq, decide_eq_false_iff_not, Bool.not_eq_true', Bool.not_eq_false', Int.not_lt, Int.not_le] at f19
    refine WA.exit rfl ?_
    have hst0 : q.2.2.1 = [] := List.eq_nil_of_length_eq_zero (by omega)
    rw [hst0] at hv
    have hdn : q.2.2.2.1 = order l := hv.done
    rw [hdn] at hSt
    exact WA.end0 rfl (.cons _ (.cons _ (.cons _ (.refl _)))) ⟨_, rfl, hSt⟩
end Go.Proofs.YtpbillinpjccdaaGreat.Fh
