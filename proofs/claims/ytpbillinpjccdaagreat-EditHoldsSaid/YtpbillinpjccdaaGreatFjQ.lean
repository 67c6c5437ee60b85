/- Contracts: the order of a tree. -/
import Derived.Test.YtpbillinpjccdaaGreatFiQ
import Derived.Test.YtpbillinpjccdaaGreatRgQ
namespace Go.Proofs.YtpbillinpjccdaaGreat.Fj
open Go.RowKit Go.J Go.R Go.Proofs.YtpbillinpjccdaaGreat.Fa Go.Proofs.YtpbillinpjccdaaGreat.Fb Go.Proofs.YtpbillinpjccdaaGreat.Fc Go.Proofs.YtpbillinpjccdaaGreat.Fd Go.Proofs.YtpbillinpjccdaaGreat.Fe Go.Proofs.YtpbillinpjccdaaGreat.Fg Go.Proofs.YtpbillinpjccdaaGreat.Fh Go.Proofs.YtpbillinpjccdaaGreat.Fi
set_option linter.unusedVariables false
set_option linter.unusedSimpArgs false
theorem AG_225 : AG Tryz.prog 225 1 := ⟨Tryz.isAgg225, Tryz.sizeOf225⟩
theorem AG_42 : AG Tryz.prog 42 6 := ⟨Tryz.isAgg42, Tryz.sizeOf42⟩
theorem EN_110 : Enters Tryz.prog 110 := enters_of Tryz.func110 (by kernel_rfl) rfl
theorem EN_169 : Enters Tryz.prog 169 := enters_of Tryz.func169 (by kernel_rfl) rfl
theorem EN_170 : Enters Tryz.prog 170 := enters_of Tryz.func170 (by kernel_rfl) rfl
theorem EN_171 : Enters Tryz.prog 171 := enters_of Tryz.func171 (by kernel_rfl) rfl
theorem EN_68 : Enters Tryz.prog 68 := enters_of Tryz.func68 (by kernel_rfl) rfl
theorem NA_22 : NA Tryz.prog 22 := ⟨Tryz.isAgg22, Tryz.sizeOf22⟩
theorem ST_22 : ST Tryz.prog 22 42 6 := ⟨Tryz.underlying22, Tryz.sizeOf42⟩
theorem ZT_22 : ZT Tryz.prog 22 (.slice none 0 0) 1 24 := by unfold ZT; kernel_rfl
theorem ZT_225 : ZT Tryz.prog 225 (.agg #[.pointer none]) 1 8 := by unfold ZT; kernel_rfl
theorem ZT_42 : ZT Tryz.prog 42 (.agg #[.int .i64 0, .int .i64 0, .int .i64 0, .int .i64 0, .int .i64 0, .int .i32 0]) 6 48 := by unfold ZT; kernel_rfl
set_option maxRecDepth 20000 in
/-- redpencil/walk.All$1 -/
theorem all1F (b p : Nat) (E : Option Addr) (cap : Nat) (fs : List Fam) (l : List Nd) (yv : Value) (Stt : List Nd → List En → Prop) (T0 : List En) (w : World) (hl : fs.length ≤ 800000) (hs : ksorted (ents fs)) (hok : storeOk l = true) (hl' : l.length ≤ 800000) (hk : ∀ d, under fs d = kids l d) (h0 : Stt [] T0) (hY : ∀ (out : List Nd) (n : Nd) (st : List Nd) (dep : Int) (T : List En) (W : World), Visit l out (n :: st) → Stt out T → Cv Tryz.prog yv [.int .i64 dep, nv n] T W (fun u hs => u = .bool true ∧ Stt (out ++ [n]) hs)) : Ct Tryz.prog 170 #[yv, .pointer (some ⟨b, 0, none⟩)] (En.blk b [.pointer (some ⟨p, 0, none⟩)] 225 :: En.blk p [.func (.func 107) #[] #[], .slice E (ents fs).length cap] 311 :: En.row E (ents fs).length cap 314 3 ((ents fs).flatMap ec) :: (fs.map (Fam.row 42) ++ T0)) w (fun u hs => ∃ T, hs = En.blk b [.pointer (some ⟨p, 0, none⟩)] 225 :: En.blk p [.func (.func 107) #[] #[], .slice E (ents fs).length cap] 311 :: En.row E (ents fs).length cap 314 3 ((ents fs).flatMap ec) :: (fs.map (Fam.row 42) ++ T) ∧ Stt (order l) T) := by
  refine Ct.intro Tryz.func170 rfl Tryz.ntmps170 rfl ?_
  refine WA.region ?_
  refine WR.val (G0 rfl) rfl rfl (.loadK (vs := [_]) rfl AG_225 rfl (fun _ hw => hw.rd_blk (k := 1) 0 rfl rfl)) ?_
  refine WR.val (G0 rfl) rfl rfl (.build (vs := [_, _]) [.int .i64 0, .int .i64 0] [0, 1] rfl rfl rfl (fun _ => by kernel_rfl)) ?_
  refine WR.val (G0 rfl) rfl rfl (.move rfl rfl) ?_
  refine WR.dw (G0 rfl) rfl rfl (.call (own := En.blk p [.func (.func 107) #[] #[], .slice E (ents fs).length cap] 311 :: En.row E (ents fs).length cap 314 3 ((ents fs).flatMap ec) :: (fs.map (Fam.row 42) ++ T0)) (hr := [_]) (caps := []) rfl rfl rfl EN_171 (List.perm_append_comm (l₁ := [_]) (l₂ := En.blk p [.func (.func 107) #[] #[], .slice E (ents fs).length cap] 311 :: En.row E (ents fs).length cap 314 3 ((ents fs).flatMap ec) :: (fs.map (Fam.row 42) ++ T0))) (fun w hw => belowF p E cap fs l yv Stt T0 w (by omega) hs hok (by omega) hk h0 hY)) ?_
  rintro _ _ ⟨_, ⟨T, rfl, hT⟩, rfl⟩
  refine WR.perm' (List.perm_append_comm (l₂ := [_])) ?_
  refine WR.nil ?_
  exact WA.end0 rfl (.refl _) ⟨_, rfl, hT⟩
set_option maxRecDepth 20000 in
/-- redpencil/walk.All -/
theorem allF (l : List Nd) (A : Option Addr) (cap : Nat) (w : World) (hS : SlN w A l) (hl : l.length ≤ 800000) (hok : storeOk l = true) : Ct Tryz.prog 110 #[.slice A l.length cap] [] w (fun u hs => ∃ b p E cap fs, u = .func (.func 170) #[] #[.pointer (some ⟨b, 0, none⟩)] ∧ hs = En.blk b [.pointer (some ⟨p, 0, none⟩)] 225 :: En.blk p [.func (.func 107) #[] #[], .slice E (ents fs).length cap] 311 :: En.row E (ents fs).length cap 314 3 ((ents fs).flatMap ec) :: fs.map (Fam.row 42) ∧ ksorted (ents fs) ∧ fs.length ≤ 800000 ∧ ∀ d, under fs d = kids l d) := by
  refine Ct.intro Tryz.func110 rfl Tryz.ntmps110 rfl ?_
  refine WA.seq ?_
  refine WA.region ?_
  refine WR.val (G0 rfl) rfl rfl (.assign rfl rfl) ?_
  refine WR.nil ?_
  refine WA.seq ?_
  refine WA.seq ?_
  refine WA.region ?_
  refine WR.val (G0 rfl) rfl rfl (.move rfl rfl) ?_
  refine WR.dw (G0 rfl) rfl rfl (.callv (caps := []) rfl rfl rfl EN_68 (fun w hw => svalidF _ _ _ _ (hw.slf0 hS) (by first | omega | (simp; omega)))) ?_
  rintro _ _ ⟨rfl, rfl⟩
  refine WR.val (G0 rfl) rfl rfl (.not rfl rfl) ?_
  refine WR.nil ?_
  refine WA.cond rfl (fun h3 => ?_) (fun h3 => ?_)
  · have f4 := h3
    try simp only [decide_eq_true_eq, decide_eq_false_iff_not, Bool.not_eq_true', Bool.not_eq_false', Int.not_lt, Int.not_le] at f4
    exact absurd hok (by simp_all)
  · have f5 := h3
    try simp only [decide_eq_true_eq, decide_eq_false_iff_not, Bool.not_eq_true', Bool.not_eq_false', Int.not_lt, Int.not_le] at f5
    refine WA.skip ?_
    refine WA.seq ?_
    refine WA.region ?_
    refine WR.val (G0 rfl) rfl rfl (.move rfl rfl) ?_
    refine WR.dw (G0 rfl) rfl rfl (.call0 (caps := []) rfl rfl rfl EN_169 (fun w hw => madeF l A cap _ (hw.slf0 hS) hl (storeOk_dd hok))) ?_
    rintro _ _ ⟨_, ⟨v6, v7, v8, v9, rfl, rfl, hs10, hl11, hk12⟩, rfl⟩
    rw [List.append_nil]
    refine WR.dw (G0 rfl) rfl rfl (.alloc (vs := [_]) rfl ZT_225 rfl) ?_
    rintro _ _ ⟨b14, rfl, rfl⟩
    refine WR.dw0 (G0 rfl) rfl (.store (i := 0) rfl AG_225.2 rfl rfl [_] rfl rfl (by intro u hu; simp at hu; subst hu; rfl) rfl rfl) ?_
    rintro _ _ ⟨rfl, rfl⟩
    refine WR.nil ?_
    refine WA.seq ?_
    refine WA.region ?_
    refine WR.val (G0 rfl) rfl rfl (.makeFunc1 rfl rfl) ?_
    refine WR.val (G0 rfl) rfl rfl (.assign rfl rfl) ?_
    refine WR.nil ?_
    have hs9 := hs10
    have hl9 := hl11
    have hk9 := hk12
    exact WA.ret1 rfl rfl (.refl _) ⟨_, _, _, _, _, rfl, rfl, hs9, hl9, hk9⟩
set_option maxRecDepth 20000 in
/-- redpencil/walk.Order -/
theorem orderF (l : List Nd) (A : Option Addr) (cap : Nat) (w : World) (hS : SlN w A l) (hl : l.length ≤ 800000) : Ct Tryz.prog 35 #[.slice A l.length cap] [] w (fun u hs => ∃ B c, u = .tuple #[.slice B (orderR l).1.length c, .int .i64 (orderR l).2] ∧ hs = [En.row B (orderR l).1.length c 42 6 ((orderR l).1.flatMap nc)]) := by
  refine Ct.intro Tryz.func35 rfl Tryz.ntmps35 rfl ?_
  refine WA.seq ?_
  refine WA.region ?_
  refine WR.val (G0 rfl) rfl rfl (.assign rfl rfl) ?_
  refine WR.val (G0 rfl) rfl rfl (.assign rfl rfl) ?_
  refine WR.nil ?_
  refine WA.seq ?_
  refine WA.seq ?_
  refine WA.region ?_
  refine WR.val (G0 rfl) rfl rfl (.move rfl rfl) ?_
  refine WR.dw (G0 rfl) rfl rfl (.callv (caps := []) rfl rfl rfl EN_68 (fun w hw => svalidF _ _ _ _ (hw.slf0 hS) (by first | omega | (simp; omega)))) ?_
  rintro _ _ ⟨rfl, rfl⟩
  refine WR.val (G0 rfl) rfl rfl (.not rfl rfl) ?_
  refine WR.nil ?_
  refine WA.cond rfl (fun h3 => ?_) (fun h3 => ?_)
  · have f4 := h3
    try simp only [decide_eq_true_eq, decide_eq_false_iff_not, Bool.not_eq_true', Bool.not_eq_false', Int.not_lt, Int.not_le] at f4
    refine WA.seq ?_
    refine WA.region ?_
    refine WR.val (G0 rfl) rfl rfl (.assign rfl rfl) ?_
    refine WR.val (G0 rfl) rfl rfl (.assign rfl rfl) ?_
    refine WR.nil ?_
    have hE : orderR l = ([], 2) := if_neg (by simp_all)
    rw [hE]
    refine WA.nilrow 42 6 ?_
    exact WA.ret2 rfl rfl rfl (List.singleton_sublist.2 (List.mem_cons_self ..)) ⟨none, 0, rfl, rfl⟩
  · have f5 := h3
    try simp only [decide_eq_true_eq, decide_eq_false_iff_not, Bool.not_eq_true', Bool.not_eq_false', Int.not_lt, Int.not_le] at f5
    refine WA.skip ?_
    refine WA.seq ?_
    have hok : storeOk l = true := by simp_all
    refine WA.region ?_
    refine WR.dw (G0 rfl) rfl rfl (.alloc (vs := [_]) rfl ZT_22 rfl) ?_
    rintro _ _ ⟨b7, rfl, rfl⟩
    refine WR.nilrow 42 6 ?_
    refine WR.perm' (.swap _ _ _) ?_
    refine WR.nil ?_
    refine WA.seq ?_
    refine WA.seq ?_
    refine WA.region ?_
    refine WR.val (G0 rfl) rfl rfl (.move rfl rfl) ?_
    refine WR.dw (G0 rfl) rfl rfl (.call0 (caps := []) rfl rfl rfl EN_110 (fun w hw => allF l A cap _ (hw.slf0 hS) hl hok)) ?_
    rintro _ _ ⟨_, ⟨v8, v9, v10, v11, v12, rfl, rfl, hs13, hl14, hk15⟩, rfl⟩
    refine WR.perm' (List.perm_append_comm (l₂ := [_, _])) ?_
    refine WR.nil ?_
    refine WA.block ?_
    refine WA.rangeFunc (caps := [.pointer (some ⟨_, 0, none⟩)]) (post' := (fun hs => ∃ A' c', hs = En.blk v8 [.pointer (some ⟨v9, 0, none⟩)] 225 :: En.blk v9 [.func (.func 107) #[] #[], .slice v10 (ents v12).length v11] 311 :: En.row v10 (ents v12).length v11 314 3 ((ents v12).flatMap ec) :: (v12.map (Fam.row 42) ++ [En.blk b7 [.slice A' (order l).length c'] 22, En.row A' (order l).length c' 42 6 ((order l).flatMap nc)]))) (own := En.blk v8 [.pointer (some ⟨v9, 0, none⟩)] 225 :: En.blk v9 [.func (.func 107) #[] #[], .slice v10 (ents v12).length v11] 311 :: En.row v10 (ents v12).length v11 314 3 ((ents v12).flatMap ec) :: (v12.map (Fam.row 42) ++ [En.blk b7 [.slice none (([] : List Nd)).length 0] 22, En.row none (([] : List Nd)).length 0 42 6 ((([] : List Nd)).flatMap nc)])) (hr := []) rfl EN_170 (by rw [List.append_nil]; exact List.perm_append_comm (l₁ := [_, _])) (fun D lp rec hrec w hw => ?_) (fun D hs hp => ?_)
    · have hY : ∀ (out : List Nd) (n : Nd) (st : List Nd) (dep : Int) (T : List En) (W : World), Visit l out (n :: st) → (∃ A' c', T = [En.lp lp rec, En.blk b7 [.slice A' (out).length c'] 22, En.row A' (out).length c' 42 6 ((out).flatMap nc)]) → Cv Tryz.prog (.func (.yield lp) #[] #[]) [.int .i64 dep, nv n] T W (fun u T => u = .bool true ∧ (∃ A' c', T = [En.lp lp rec, En.blk b7 [.slice A' ((out ++ [n])).length c'] 22, En.row A' ((out ++ [n])).length c' 42 6 (((out ++ [n])).flatMap nc)])) := by
        intro out n st dep T W hv hSt
        have hvl := hv.len
        simp only [List.length_cons] at hvl
        obtain ⟨A', c', rfl⟩ := hSt
        refine Cv.yield _ (by rw [hrec.params]; rfl) (Ag.round2 hrec rfl rfl rfl) ?_
        rw [hrec.assign]
        refine WA.region ?_
        refine WR.dw (G0 rfl) rfl rfl (.alloc (vs := [_, _, _, _, _, _]) rfl ZT_42 rfl) ?_
        rintro _ _ ⟨b17, rfl, rfl⟩
        refine WR.dw0 (G0 rfl) rfl (.store (i := 0) rfl AG_42.2 rfl rfl [_, _, _, _, _, _] rfl rfl (by intro u hu; simp at hu; rcases hu with rfl | rfl | rfl | rfl | rfl | rfl <;> rfl) rfl rfl) ?_
        rintro _ _ ⟨rfl, rfl⟩
        refine WR.nil ?_
        refine WA.begun 1 rfl hrec.state hrec.body ?_
        refine WA.block ?_
        refine WA.region ?_
        refine WR.val (G0 rfl) rfl rfl (.load1 rfl NA_22 rfl (fun _ hw => hw.rd_blk (k := 1) 2 rfl rfl)) ?_
        refine WR.val (G0 rfl) rfl rfl (.loadK (vs := [_, _, _, _, _, _]) rfl AG_42 rfl (fun _ hw => hw.rd_blk (k := 6) 0 rfl rfl)) ?_
        refine WR.dw (G0 rfl) rfl rfl (.buildSlice (k := 6) (e := 42) (vs := [_, _, _, _, _, _]) rfl rfl rfl (fun _ => by kernel_rfl) rfl) ?_
        rintro _ _ ⟨b19, rfl, rfl⟩
        refine WR.dw (G0 rfl) rfl rfl (.append 4 rfl ST_22.1 ZT_42 rfl (by decide) rfl rfl rfl (fun _ hw => hw.slf_blk 0 rfl rfl (by simp [maxLen])) (by intro u hu; simp at hu; rcases hu with rfl | rfl | rfl | rfl | rfl | rfl <;> rfl) (by omega) (by omega)) ?_
        rintro _ _ ⟨A20, c21, rfl, rfl⟩
        refine WR.dw0 (G0 rfl) rfl (.store (i := 3) rfl NA_22.2 rfl rfl [_] rfl rfl (by intro u hu; simp at hu; subst hu; rfl) rfl rfl) ?_
        rintro _ _ ⟨rfl, rfl⟩
        refine WR.nil ?_
        refine WA.mark ?_
        exact WA.rounded 2 rfl hrec.state hrec.pending (.cons _ (.cons _ (.refl _))) ⟨rfl, ⟨_, _, by rw [flat_snoc, List.length_append]; rfl⟩⟩
      have hC := all1F v8 v9 v10 v11 v12 l (.func (.yield lp) #[] #[]) (fun out T => ∃ A' c', T = [En.lp lp rec, En.blk b7 [.slice A' (out).length c'] 22, En.row A' (out).length c' 42 6 ((out).flatMap nc)]) [En.lp lp rec, En.blk b7 [.slice none (([] : List Nd)).length 0] 22, En.row none (([] : List Nd)).length 0 42 6 ((([] : List Nd)).flatMap nc)] w hl14 hs13 hok (by omega) hk15 ⟨none, 0, rfl⟩ hY
      refine (hC.perm ?_).mono ?_
      · exact itr_perm [_, _, _] _ _ [_, _]
      rintro u hs ⟨T, rfl, A', c', rfl⟩
      exact ⟨_, itr_perm [_, _, _] _ _ [_, _], A', c', rfl⟩
    · obtain ⟨A', c', rfl⟩ := hp
      rw [List.append_nil]
      refine WA.perm (List.Perm.cons _ (List.perm_append_comm (l₁ := En.blk v8 [.pointer (some ⟨v9, 0, none⟩)] 225 :: En.blk v9 [.func (.func 107) #[] #[], .slice v10 (ents v12).length v11] 311 :: En.row v10 (ents v12).length v11 314 3 ((ents v12).flatMap ec) :: v12.map (Fam.row 42)) (l₂ := [_, _]))) ?_
      refine WA.mark ?_
      refine WA.seq ?_
      refine WA.region ?_
      refine WR.val (G0 rfl) rfl rfl (.load1 rfl NA_22 rfl (fun _ hw => hw.rd_blk (k := 1) 1 rfl rfl)) ?_
      refine WR.val (G0 rfl) rfl rfl (.assign rfl rfl) ?_
      refine WR.val (G0 rfl) rfl rfl (.assign rfl rfl) ?_
      refine WR.nil ?_
      have hE : orderR l = (order l, 0) := if_pos hok
      rw [hE]
      refine WA.retq ?_
      refine RT.undefer 0 rfl ?_
      exact RT.ret2 rfl rfl rfl (.cons _ (.cons_cons _ (List.nil_sublist _))) ⟨_, _, rfl, rfl⟩
end Go.Proofs.YtpbillinpjccdaaGreat.Fj
