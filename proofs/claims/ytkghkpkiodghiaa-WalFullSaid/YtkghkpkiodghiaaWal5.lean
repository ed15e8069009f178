/- A log is opened: where nothing is to be mended, and no snapshot is. -/
import Derived.Test.YtkghkpkiodghiaaWal4
namespace Go.Proofs.Ytkghkpkiodghiaa
set_option linter.unusedVariables false
set_option linter.unusedSimpArgs false
set_option linter.unnecessarySimpa false
open Go.RowKit
set_option maxRecDepth 100000
set_option maxHeartbeats 4000000

theorem results_tct {fn : Func} {q p u : Tmp} {ty : TypeId} (h : fn.results = #[.tmp q, .cell p ty, .tmp u]) (tmps : Array Value) (P : Program) (w : World) :
    (results fn tmps).run P w =
      ((asAddr (tmps.getD p undef)).run P w).andThen fun a w₁ => ((loadVar ty a).run P w₁).andThen fun v w₂ => .ok (.tuple #[tmps.getD q undef, v, tmps.getD u undef]) w₂ := by
  simp only [results, h]
  simp [Sem.run_bind, Result.andThen]
/-- What Open's return reads. -/
theorem Open_ret {R : Ending → World → Prop} (act : Act) (w : World) (q g : Nat) {a b c d : Value} (hd : act.defers = []) (h2 : act.tmps.getD 2 undef = .pointer (some ⟨q, 0, none⟩)) (h3 : act.tmps.getD 3 undef = .pointer (some ⟨g, 0, none⟩)) (h4 : act.tmps.getD 4 undef = .int .i64 0)
    (hrow : Row w g 31 [a, b, c, d]) (hR : R (.returned (.tuple #[.pointer (some ⟨q, 0, none⟩), .agg #[a, b, c, d], .int .i64 0])) w) : bodyPost Try.prog Try.f7 R .ret act w := by
  refine bodyPost_ret (v := .tuple #[.pointer (some ⟨q, 0, none⟩), .agg #[a, b, c, d], .int .i64 0]) ?_ hd hR
  have hl := run_loadVar_row (P := Try.prog) w g _ 31 #[a, b, c, d] (0, 0) _ hrow Try.underlying31 rfl (by kernel_rfl)
  rw [results_tct rfl, h2, h3, h4]
  simp [asAddr, Result.andThen, hl]
theorem Open_fin (p q g : Nat) (rs : List (List UInt8)) (w w3 w5 : World) (rv : Value) (hs : g + 1 < w5.heap.size) (hk : Row w5 g 31 (KepC false (.slice none 0 0) (.slice none 0 0) 0)) (hl : BOs w5 w3.heap.size rv rs) (hb : Below g w w5) (he : g ≤ w3.heap.size) :
    WalR (((((w5.alloc (.cells #[.pointer (some ⟨p, 0, none⟩), .int .u64 (rs.length : Int)] 71)).setCell ⟨g, 0, none⟩ (.bool false)).setCell ⟨g, 1, none⟩ (.slice none 0 0)).setCell ⟨g, 2, none⟩ rv).setCell ⟨g, 3, none⟩ (.int .u64 (rs.length : Int))) w5.heap.size p rs.length ∧
    BOs (((((w5.alloc (.cells #[.pointer (some ⟨p, 0, none⟩), .int .u64 (rs.length : Int)] 71)).setCell ⟨g, 0, none⟩ (.bool false)).setCell ⟨g, 1, none⟩ (.slice none 0 0)).setCell ⟨g, 2, none⟩ rv).setCell ⟨g, 3, none⟩ (.int .u64 (rs.length : Int))) g rv rs ∧
    Below g w (((((w5.alloc (.cells #[.pointer (some ⟨p, 0, none⟩), .int .u64 (rs.length : Int)] 71)).setCell ⟨g, 0, none⟩ (.bool false)).setCell ⟨g, 1, none⟩ (.slice none 0 0)).setCell ⟨g, 2, none⟩ rv).setCell ⟨g, 3, none⟩ (.int .u64 (rs.length : Int))) ∧ g < w5.heap.size := by
  have hu := (((Upd.set g 0 (w5.alloc (.cells #[.pointer (some ⟨p, 0, none⟩), .int .u64 (rs.length : Int)] 71)) (.bool false)).trans (Upd.set g 1 _ (.slice none 0 0))).trans (Upd.set g 2 _ rv)).trans (Upd.set g 3 _ (.int .u64 (rs.length : Int)))
  have hba := balloc (Below.refl w5.heap.size w5) (.cells #[.pointer (some ⟨p, 0, none⟩), .int .u64 (rs.length : Int)] 71)
  refine ⟨hu.row (Row.new w5 71 [.pointer (some ⟨p, 0, none⟩), .int .u64 (rs.length : Int)]) (by omega), (hu.bos (hl.below hba) (Row.alloc hk _) (by decide) (by decide)).mono he, (hb.trans (hba.mono (by omega))).trans (hu.below (Nat.le_refl _) (by have := hba.size; omega)), by omega⟩
theorem Open_log (p : Nat) (S : PD) (rs : List (List UInt8)) (w : World) (hS : Dsk w p S) (h1 : S.n1 = []) (hd : S.dead = false) (h0 : S.n0 = frames (bods 0 rs)) (hr : ∀ r ∈ rs, r.length ≤ 3000) (hn : rs.length ≤ 1000) (hlen : S.n0.length ≤ 10000000) :
    Calls Try.prog 7 #[.pointer (some ⟨p, 0, none⟩)] w fun e w' => ∃ q rv, e = .returned (.tuple #[.pointer (some ⟨q, 0, none⟩), .agg #[.bool false, .slice none 0 0, rv, .int .u64 (rs.length : Int)], .int .i64 0]) ∧ WalR w' q p rs.length ∧ BOs w' w.heap.size rv rs ∧ Below w.heap.size w w' ∧ w.heap.size < q := by
  have hr1 : S.read 1 = ([], 0) := by unfold PD.read; rw [if_neg (by simp [hd]), if_neg (by omega)]; simp [h1]
  have hr0 : S.read 0 = (S.n0, 0) := by unfold PD.read; rw [if_neg (by simp [hd]), if_neg (by omega)]; simp
  have HR1 := Lib.hid hr1
  have HR0 := Lib.hid hr0
  have HS := Lib.hid hS
  have H0 := Lib.hid h0
  have HT := Lib.hid (show S.n0.length + S.n1.length ≤ 100000000000 by rw [h1]; simp; omega)
  have HRR := Lib.hid hr
  clear hr1 hr0 hS h0 hr h1 hd
  go_enter Try.func7, Try.ntmps7
  go_wp2_with fail
  refine (Read_any p 1 S _ (HS.out.keepB (balloc (balloc (Below.refl _ _) _) _)) HT.out).mono ?_
  rw [HR1.out]
  rintro e w1 ⟨v1, rfl, ho1, hb1⟩
  obtain ⟨x1, c1, rfl, -⟩ := ho1.sh.open
  go_wp2_with (go_at_call 23; refine (snapshot_nil _ [] _ w1 ho1.sh rfl).mono ?_; rintro e w2 ⟨rfl, hw2⟩; have hw2' := hw2.symm; clear hw2; subst hw2')
  have hB2 : Below w.heap.size w w1 := bstep (balloc (balloc (Below.refl _ _) _) _) hb1
  have K1 : Row w1 w.heap.size 31 (KepC false (.slice none 0 0) (.slice none 0 0) 0) := ((Row.new w 31 (KepC false (.slice none 0 0) (.slice none 0 0) 0)).alloc _).keep hb1
  have K2 : Row w1 (w.heap.size + 1) 31 (KepC false (.slice none 0 0) (.slice none 0 0) 0) := by
    have := (Row.new (w.alloc (.cells (KepC false (.slice none 0 0) (.slice none 0 0) 0).toArray 31)) 31 (KepC false (.slice none 0 0) (.slice none 0 0) 0)).keep hb1
    simpa using this
  have HB2 := Lib.hid hB2
  have HK1 := Lib.hid K1
  have HK2 := Lib.hid K2
  clear ho1 hb1 hB2 K1 K2
  refine (Read_any p 0 S _ (HS.out.keepB HB2.out) HT.out).mono ?_
  rw [HR0.out]
  rintro e w3 ⟨v3, rfl, ho3, hb3⟩
  obtain ⟨x3, c3, rfl, -⟩ := ho3.sh.open
  have hsc : scF (S.n0.length + 1) S.n0 = (bods 0 rs, S.n0.length, 0) := by
    rw [H0.out]
    exact log_scan rs (fun r hr => by have := HRR.out r hr; omega) (by omega)
  have hrf : recF 0 (bods 0 rs) 0 [] 0 = (S.n0.length, rs, rs.length) := by
    have := recF_bods rs 0 [] (by simp; omega)
    rw [H0.out]
    simpa using this
  have HSC := Lib.hid hsc
  have HRF := Lib.hid hrf
  have HO3 := Lib.hid ho3
  have HB3 := Lib.hid hb3
  clear hsc hrf ho3 hb3
  go_wp2_with (go_at_call 24; refine (records_any _ S.n0 (w.heap.size + 1) 0 false _ _ (HK2.out.keep HB3.out) HO3.out.sh (by omega) (by omega) _ HSC.out (by dsimp only; rw [bods_length]; omega) _ HRF.out).mono ?_; rintro e w4 ⟨rv, rfl, hr4, ho4, hu4⟩; dsimp only at hr4 ho4; obtain ⟨x4, c4, rfl, -⟩ := ho4.bss.open)
  have B4 := Lib.hid ((HB2.out.trans (HB3.out.mono HB2.out.size)).trans (hu4.below (B := w.heap.size) (by omega) (by have := HB2.out.size; have := HB3.out.size; omega)))
  have R5 := Lib.hid (Row.drew hr4)
  have K5 := Lib.hid (Row.drew (hu4.row (HK1.out.keep HB3.out) (by omega)))
  have L5 := Lib.hid (ho4.below (Below.refl _ _).drew)
  have B5 := Lib.hid (B4.out.trans ((Below.refl w.heap.size w4).drew))
  have S5 := Lib.hid (show w.heap.size + 1 < w4.drew.heap.size from R5.out.lt)
  have E5 := Lib.hid (show w.heap.size ≤ w3.heap.size by have := HB2.out.size; have := HB3.out.size; omega)
  refine wp_region_any (by kernel_rfl) ?_
  try (change wpAny _ _ _ _ _ _ _ (World.drew _))
  generalize World.drew w4 = w5 at *
  have k0 := Row.cell (R5.out) 0; have k1 := Row.cell (R5.out) 1; have k2 := Row.cell (R5.out) 2; have k3 := Row.cell (R5.out) 3; simp only [KepC, List.getElem?_cons_succ, List.getElem?_cons_zero] at k0 k1 k2 k3
  refine wpAny_take (i := 0) (v := ?_) (by simp only [List.getElem?_toArray, List.getElem?_cons_zero, List.getElem?_cons_succ] <;> rfl) (by kernel_rfl) (by kernel_rfl) (by kernel_rfl) (by intro _ _ _ h; exact h) (Or.inl ⟨by rfl, ?_⟩) ?_
  rotate_left
  · intro w; go_simp; try with_reducible rfl
  try simp only [Act.put, List.setIfInBounds_toArray, List.set_cons_zero, List.set_cons_succ, Array.replicate]
  refine wpAny_take (i := 1) (v := ?_) (by simp only [List.getElem?_toArray, List.getElem?_cons_zero, List.getElem?_cons_succ] <;> rfl) (by kernel_rfl) (by kernel_rfl) (by kernel_rfl) (by intro _ _ _ h; exact h) (Or.inl ⟨by rfl, ?_⟩) ?_
  rotate_left
  · intro w; go_simp; try with_reducible rfl
  try simp only [Act.put, List.setIfInBounds_toArray, List.set_cons_zero, List.set_cons_succ, Array.replicate]
  refine wpAny_ready (rs := [2, 5]) (by kernel_rfl) (by simp) ?_
  refine AllReady.cons (by simp only [List.getElem?_toArray, List.getElem?_cons_zero, List.getElem?_cons_succ] <;> rfl) (fun K hK => ?_) ?_
  · go_simp
    refine hK _ _ ?_
    clear hK K
    try simp only [Act.put, List.setIfInBounds_toArray, List.set_cons_zero, List.set_cons_succ, Array.replicate]
    refine wpAny_take (i := 3) (v := ?_) (by simp only [List.getElem?_toArray, List.getElem?_cons_zero, List.getElem?_cons_succ] <;> rfl) (by kernel_rfl) (by kernel_rfl) (by kernel_rfl) (by intro _ _ _ h; exact h) (Or.inl ⟨by rfl, ?_⟩) ?_
    rotate_left
    · intro w; go_simp; try with_reducible rfl
    try simp only [Act.put, List.setIfInBounds_toArray, List.set_cons_zero, List.set_cons_succ, Array.replicate]
    refine wpAny_ready (rs := [4, 5]) (by kernel_rfl) (by simp) ?_
    refine AllReady.cons (by simp only [List.getElem?_toArray, List.getElem?_cons_zero, List.getElem?_cons_succ] <;> rfl) (fun K hK => ?_) ?_
    · go_simp
      refine hK _ _ ?_
      clear hK K
      try simp only [Act.put, List.setIfInBounds_toArray, List.set_cons_zero, List.set_cons_succ, Array.replicate]
      refine wpAny_take (i := 6) (v := ?_) (by simp only [List.getElem?_toArray, List.getElem?_cons_zero, List.getElem?_cons_succ] <;> rfl) (by kernel_rfl) (by kernel_rfl) (by kernel_rfl) (by intro _ _ _ h; exact h) (Or.inl ⟨by rfl, ?_⟩) ?_
      rotate_left
      · intro w; go_simp; try with_reducible rfl
      try simp only [Act.put, List.setIfInBounds_toArray, List.set_cons_zero, List.set_cons_succ, Array.replicate]
      have a0 := Row.cell (Row.alloc R5.out (.cells #[.pointer (some ⟨p, 0, none⟩), .int .u64 (rs.length : Int)] 71)) 0; have a1 := Row.cell (Row.alloc R5.out (.cells #[.pointer (some ⟨p, 0, none⟩), .int .u64 (rs.length : Int)] 71)) 1; have a2 := Row.cell (Row.alloc R5.out (.cells #[.pointer (some ⟨p, 0, none⟩), .int .u64 (rs.length : Int)] 71)) 2; have a3 := Row.cell (Row.alloc R5.out (.cells #[.pointer (some ⟨p, 0, none⟩), .int .u64 (rs.length : Int)] 71)) 3; simp only [KepC, List.getElem?_cons_succ, List.getElem?_cons_zero] at a0 a1 a2 a3
      refine wpAny_ready (rs := [5]) (by kernel_rfl) (by simp) ?_
      refine AllReady.cons (by simp only [List.getElem?_toArray, List.getElem?_cons_zero, List.getElem?_cons_succ] <;> rfl) (fun K hK => ?_) ?_
      · go_simp
        refine hK _ _ ?_
        clear hK K
        try simp only [Act.put, List.setIfInBounds_toArray, List.set_cons_zero, List.set_cons_succ, Array.replicate]
        have s0 := Row.cell (Row.alloc K5.out (.cells #[.pointer (some ⟨p, 0, none⟩), .int .u64 (rs.length : Int)] 71)) 0; have s1 := Row.cell (Row.alloc K5.out (.cells #[.pointer (some ⟨p, 0, none⟩), .int .u64 (rs.length : Int)] 71)) 1; have s2 := Row.cell (Row.alloc K5.out (.cells #[.pointer (some ⟨p, 0, none⟩), .int .u64 (rs.length : Int)] 71)) 2; have s3 := Row.cell (Row.alloc K5.out (.cells #[.pointer (some ⟨p, 0, none⟩), .int .u64 (rs.length : Int)] 71)) 3; simp only [KepC, List.getElem?_cons_succ, List.getElem?_cons_zero] at s0 s1 s2 s3; have f0 := Row.frozen (Row.alloc K5.out (.cells #[.pointer (some ⟨p, 0, none⟩), .int .u64 (rs.length : Int)] 71)) 0; have f1 := Row.frozen (Row.alloc K5.out (.cells #[.pointer (some ⟨p, 0, none⟩), .int .u64 (rs.length : Int)] 71)) 1; have f2 := Row.frozen (Row.alloc K5.out (.cells #[.pointer (some ⟨p, 0, none⟩), .int .u64 (rs.length : Int)] 71)) 2; have f3 := Row.frozen (Row.alloc K5.out (.cells #[.pointer (some ⟨p, 0, none⟩), .int .u64 (rs.length : Int)] 71)) 3
        refine wpAny_ready (rs := [7]) (by kernel_rfl) (by simp) ?_
        refine AllReady.cons (by simp only [List.getElem?_toArray, List.getElem?_cons_zero, List.getElem?_cons_succ] <;> rfl) (fun K hK => ?_) ?_
        · go_simp
          refine hK _ _ ?_
          clear hK K
          try simp only [Act.put, List.setIfInBounds_toArray, List.set_cons_zero, List.set_cons_succ, Array.replicate]
          refine wpAny_take (i := 8) (v := ?_) (by simp only [List.getElem?_toArray, List.getElem?_cons_zero, List.getElem?_cons_succ] <;> rfl) (by kernel_rfl) (by kernel_rfl) (by kernel_rfl) (by intro _ _ _ h; exact h) (Or.inl ⟨by rfl, ?_⟩) ?_
          rotate_left
          · intro w; go_simp; try with_reducible rfl
          try simp only [Act.put, List.setIfInBounds_toArray, List.set_cons_zero, List.set_cons_succ, Array.replicate]
          refine wpAny_done (by kernel_rfl) ?_ _
          go_wp2_with fail
          refine Open_ret _ _ w5.heap.size w.heap.size rfl rfl rfl rfl (Row.set (Row.set (Row.set (Row.set (Row.alloc K5.out _) 0 _) 1 _) 2 _) 3 _) ?_
          exact ⟨_, _, rfl, Open_fin p w5.heap.size w.heap.size rs w w3 w5 _ S5.out K5.out L5.out B5.out E5.out⟩
        exact AllReady.nil
      exact AllReady.nil
    refine AllReady.cons (by simp only [List.getElem?_toArray, List.getElem?_cons_zero, List.getElem?_cons_succ] <;> rfl) (fun K hK => ?_) ?_
    · go_simp
      refine hK _ _ ?_
      clear hK K
      try simp only [Act.put, List.setIfInBounds_toArray, List.set_cons_zero, List.set_cons_succ, Array.replicate]
      refine wpAny_ready (rs := [4]) (by kernel_rfl) (by simp) ?_
      refine AllReady.cons (by simp only [List.getElem?_toArray, List.getElem?_cons_zero, List.getElem?_cons_succ] <;> rfl) (fun K hK => ?_) ?_
      · go_simp
        refine hK _ _ ?_
        clear hK K
        try simp only [Act.put, List.setIfInBounds_toArray, List.set_cons_zero, List.set_cons_succ, Array.replicate]
        refine wpAny_take (i := 6) (v := ?_) (by simp only [List.getElem?_toArray, List.getElem?_cons_zero, List.getElem?_cons_succ] <;> rfl) (by kernel_rfl) (by kernel_rfl) (by kernel_rfl) (by intro _ _ _ h; exact h) (Or.inl ⟨by rfl, ?_⟩) ?_
        rotate_left
        · intro w; go_simp; try with_reducible rfl
        try simp only [Act.put, List.setIfInBounds_toArray, List.set_cons_zero, List.set_cons_succ, Array.replicate]
        have s0 := Row.cell (Row.alloc K5.out (.cells #[.pointer (some ⟨p, 0, none⟩), .int .u64 (rs.length : Int)] 71)) 0; have s1 := Row.cell (Row.alloc K5.out (.cells #[.pointer (some ⟨p, 0, none⟩), .int .u64 (rs.length : Int)] 71)) 1; have s2 := Row.cell (Row.alloc K5.out (.cells #[.pointer (some ⟨p, 0, none⟩), .int .u64 (rs.length : Int)] 71)) 2; have s3 := Row.cell (Row.alloc K5.out (.cells #[.pointer (some ⟨p, 0, none⟩), .int .u64 (rs.length : Int)] 71)) 3; simp only [KepC, List.getElem?_cons_succ, List.getElem?_cons_zero] at s0 s1 s2 s3; have f0 := Row.frozen (Row.alloc K5.out (.cells #[.pointer (some ⟨p, 0, none⟩), .int .u64 (rs.length : Int)] 71)) 0; have f1 := Row.frozen (Row.alloc K5.out (.cells #[.pointer (some ⟨p, 0, none⟩), .int .u64 (rs.length : Int)] 71)) 1; have f2 := Row.frozen (Row.alloc K5.out (.cells #[.pointer (some ⟨p, 0, none⟩), .int .u64 (rs.length : Int)] 71)) 2; have f3 := Row.frozen (Row.alloc K5.out (.cells #[.pointer (some ⟨p, 0, none⟩), .int .u64 (rs.length : Int)] 71)) 3
        refine wpAny_ready (rs := [7]) (by kernel_rfl) (by simp) ?_
        refine AllReady.cons (by simp only [List.getElem?_toArray, List.getElem?_cons_zero, List.getElem?_cons_succ] <;> rfl) (fun K hK => ?_) ?_
        · go_simp
          refine hK _ _ ?_
          clear hK K
          try simp only [Act.put, List.setIfInBounds_toArray, List.set_cons_zero, List.set_cons_succ, Array.replicate]
          refine wpAny_take (i := 8) (v := ?_) (by simp only [List.getElem?_toArray, List.getElem?_cons_zero, List.getElem?_cons_succ] <;> rfl) (by kernel_rfl) (by kernel_rfl) (by kernel_rfl) (by intro _ _ _ h; exact h) (Or.inl ⟨by rfl, ?_⟩) ?_
          rotate_left
          · intro w; go_simp; try with_reducible rfl
          try simp only [Act.put, List.setIfInBounds_toArray, List.set_cons_zero, List.set_cons_succ, Array.replicate]
          refine wpAny_done (by kernel_rfl) ?_ _
          go_wp2_with fail
          refine Open_ret _ _ w5.heap.size w.heap.size rfl rfl rfl rfl (Row.set (Row.set (Row.set (Row.set (Row.alloc K5.out _) 0 _) 1 _) 2 _) 3 _) ?_
          exact ⟨_, _, rfl, Open_fin p w5.heap.size w.heap.size rs w w3 w5 _ S5.out K5.out L5.out B5.out E5.out⟩
        exact AllReady.nil
      exact AllReady.nil
    exact AllReady.nil
  refine AllReady.cons (by simp only [List.getElem?_toArray, List.getElem?_cons_zero, List.getElem?_cons_succ] <;> rfl) (fun K hK => ?_) ?_
  · go_simp
    refine hK _ _ ?_
    clear hK K
    try simp only [Act.put, List.setIfInBounds_toArray, List.set_cons_zero, List.set_cons_succ, Array.replicate]
    refine wpAny_ready (rs := [2]) (by kernel_rfl) (by simp) ?_
    refine AllReady.cons (by simp only [List.getElem?_toArray, List.getElem?_cons_zero, List.getElem?_cons_succ] <;> rfl) (fun K hK => ?_) ?_
    · go_simp
      refine hK _ _ ?_
      clear hK K
      try simp only [Act.put, List.setIfInBounds_toArray, List.set_cons_zero, List.set_cons_succ, Array.replicate]
      refine wpAny_take (i := 3) (v := ?_) (by simp only [List.getElem?_toArray, List.getElem?_cons_zero, List.getElem?_cons_succ] <;> rfl) (by kernel_rfl) (by kernel_rfl) (by kernel_rfl) (by intro _ _ _ h; exact h) (Or.inl ⟨by rfl, ?_⟩) ?_
      rotate_left
      · intro w; go_simp; try with_reducible rfl
      try simp only [Act.put, List.setIfInBounds_toArray, List.set_cons_zero, List.set_cons_succ, Array.replicate]
      refine wpAny_ready (rs := [4]) (by kernel_rfl) (by simp) ?_
      refine AllReady.cons (by simp only [List.getElem?_toArray, List.getElem?_cons_zero, List.getElem?_cons_succ] <;> rfl) (fun K hK => ?_) ?_
      · go_simp
        refine hK _ _ ?_
        clear hK K
        try simp only [Act.put, List.setIfInBounds_toArray, List.set_cons_zero, List.set_cons_succ, Array.replicate]
        refine wpAny_take (i := 6) (v := ?_) (by simp only [List.getElem?_toArray, List.getElem?_cons_zero, List.getElem?_cons_succ] <;> rfl) (by kernel_rfl) (by kernel_rfl) (by kernel_rfl) (by intro _ _ _ h; exact h) (Or.inl ⟨by rfl, ?_⟩) ?_
        rotate_left
        · intro w; go_simp; try with_reducible rfl
        try simp only [Act.put, List.setIfInBounds_toArray, List.set_cons_zero, List.set_cons_succ, Array.replicate]
        have s0 := Row.cell (Row.alloc K5.out (.cells #[.pointer (some ⟨p, 0, none⟩), .int .u64 (rs.length : Int)] 71)) 0; have s1 := Row.cell (Row.alloc K5.out (.cells #[.pointer (some ⟨p, 0, none⟩), .int .u64 (rs.length : Int)] 71)) 1; have s2 := Row.cell (Row.alloc K5.out (.cells #[.pointer (some ⟨p, 0, none⟩), .int .u64 (rs.length : Int)] 71)) 2; have s3 := Row.cell (Row.alloc K5.out (.cells #[.pointer (some ⟨p, 0, none⟩), .int .u64 (rs.length : Int)] 71)) 3; simp only [KepC, List.getElem?_cons_succ, List.getElem?_cons_zero] at s0 s1 s2 s3; have f0 := Row.frozen (Row.alloc K5.out (.cells #[.pointer (some ⟨p, 0, none⟩), .int .u64 (rs.length : Int)] 71)) 0; have f1 := Row.frozen (Row.alloc K5.out (.cells #[.pointer (some ⟨p, 0, none⟩), .int .u64 (rs.length : Int)] 71)) 1; have f2 := Row.frozen (Row.alloc K5.out (.cells #[.pointer (some ⟨p, 0, none⟩), .int .u64 (rs.length : Int)] 71)) 2; have f3 := Row.frozen (Row.alloc K5.out (.cells #[.pointer (some ⟨p, 0, none⟩), .int .u64 (rs.length : Int)] 71)) 3
        refine wpAny_ready (rs := [7]) (by kernel_rfl) (by simp) ?_
        refine AllReady.cons (by simp only [List.getElem?_toArray, List.getElem?_cons_zero, List.getElem?_cons_succ] <;> rfl) (fun K hK => ?_) ?_
        · go_simp
          refine hK _ _ ?_
          clear hK K
          try simp only [Act.put, List.setIfInBounds_toArray, List.set_cons_zero, List.set_cons_succ, Array.replicate]
          refine wpAny_take (i := 8) (v := ?_) (by simp only [List.getElem?_toArray, List.getElem?_cons_zero, List.getElem?_cons_succ] <;> rfl) (by kernel_rfl) (by kernel_rfl) (by kernel_rfl) (by intro _ _ _ h; exact h) (Or.inl ⟨by rfl, ?_⟩) ?_
          rotate_left
          · intro w; go_simp; try with_reducible rfl
          try simp only [Act.put, List.setIfInBounds_toArray, List.set_cons_zero, List.set_cons_succ, Array.replicate]
          refine wpAny_done (by kernel_rfl) ?_ _
          go_wp2_with fail
          refine Open_ret _ _ w5.heap.size w.heap.size rfl rfl rfl rfl (Row.set (Row.set (Row.set (Row.set (Row.alloc K5.out _) 0 _) 1 _) 2 _) 3 _) ?_
          exact ⟨_, _, rfl, Open_fin p w5.heap.size w.heap.size rs w w3 w5 _ S5.out K5.out L5.out B5.out E5.out⟩
        exact AllReady.nil
      exact AllReady.nil
    exact AllReady.nil
  exact AllReady.nil
end Go.Proofs.Ytkghkpkiodghiaa
