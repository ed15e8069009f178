/- The laws' does. (printed by gen/wal18.py) -/
import Derived.Test.YtkghkpkiodghiaaTk
import Derived.Test.YtkghkpkiodghiaaWal17
import Derived.Test.YtkghkpkiodghiaaWalN
import Derived.Test.YtkghkpkiodghiaaWalM
import Derived.Test.YtkghkpkiodghiaaDsk12p
namespace Go.Proofs.Ytkghkpkiodghiaa
set_option linter.unusedVariables false
set_option linter.unusedSimpArgs false
set_option linter.unnecessarySimpa false
open Go.RowKit
set_option maxRecDepth 100000
set_option maxHeartbeats 8000000

theorem Row.ne {w : World} {a b t u : Nat} {C D : List Value} (h : Row w a t C) (k : Row w b u D) (htu : t ≠ u) : a ≠ b := by
 intro he
 subst he
 have := h.symm.trans k
 simp only [Option.some.injEq, Obj.cells.injEq] at this
 exact htu this.2.1
theorem Upd2.row {p a x t : Nat} {C : List Value} {w w' : World} (h : Upd2 p a w w') (hr : Row w x t C) (h1 : x ≠ p) (h2 : x ≠ a) : Row w' x t C := by
 obtain ⟨v, k1, k2⟩ := h
 exact k2.row (k1.row hr h1) h2
theorem Upd2.below {p a B : Nat} {w w' : World} (h : Upd2 p a w w') (h1 : B ≤ p) (h2 : B ≤ a) (hB : B ≤ w.heap.size) : Below B w w' := by
 obtain ⟨v, k1, k2⟩ := h
 exact (k1.below h1 hB).trans (k2.below h2 (Nat.le_trans hB k1.sizeLe))
theorem Upd2.rdk {p a q n : Nat} {S : PD} {R : RD} {w w' : World} (h : Upd2 p a w w') (hR : Rdk w q R) (hS : Dsk w p S) (hQ : WalR w a p n) (hqp : q ≠ p) : Rdk w' q R := by
 obtain ⟨v, k1, k2⟩ := h
 have hpa : a ≠ p := Row.ne (show Row w a 71 _ from hQ) hS.rowC.choose_spec (by decide)
 have hqa : q ≠ a := Row.ne hR.rowC.choose_spec.1 (show Row w a 71 _ from hQ) (by decide)
 exact (hR.upd hS hqp k1).updO (k1.row (show Row w a 71 _ from hQ) hpa) (by decide) hqa k2
theorem Upd2.dsk {p a q n : Nat} {S : PD} {R : RD} {w w' : World} (h : Upd2 q a w w') (hS : Dsk w p S) (hR : Rdk w q R) (hQ : RWalR w a q n) (hpq : p ≠ q) : Dsk w' p S := by
 obtain ⟨v, k1, k2⟩ := h
 have hqa : a ≠ q := Row.ne (show Row w a 83 _ from hQ) hR.rowC.choose_spec.1 (by decide)
 have hpa : p ≠ a := Row.ne hS.rowC.choose_spec (show Row w a 83 _ from hQ) (by decide)
 exact (hS.upd hR hpq k1).updO (k1.row (show Row w a 83 _ from hQ) hqa) (by decide) hpa k2
theorem Append_of (q p n : Nat) (vb : Value) (b : List UInt8) (S S' : PD) (n' e' : Nat) (hW : S.wapp n b = (S', n', e')) (w : World) (hq : WalR w q p n) (hS : Dsk w p S) (hb : Sh w vb b) (hn : n < 4611686018427387903) (hl : b.length ≤ 1000000) (hm : S.left ≤ 9223372036854775807) (ht : S.n0.length + S.n1.length ≤ 10000000000) (hlim : -1000000000000 ≤ S.lim ∧ S.lim ≤ 1000000000000) :
  Calls Try.prog 8 #[.pointer (some ⟨q, 0, none⟩), vb] w fun e w' => e = .returned (.int .i64 (e' : Int)) ∧ Dsk w' p S' ∧ WalR w' q p n' ∧ Upd2 p q w w' := by
 have h := Append_any q p n vb b S w hq hS hb hn hl (Row.ne hS.rowC.choose_spec (show Row w q 71 _ from hq) (by decide)) hm ht hlim
 rw [hW] at h
 exact h
theorem rAppend_of (q p n : Nat) (vb : Value) (b : List UInt8) (S S' : RD) (n' e' : Nat) (hW : S.rapp n b = (S', n', e')) (T : Nat) (x : Int) (w : World) (hq : RWalR w q p n) (hS : Rdk w p S) (hb : Sh w vb b) (hn : n < 4611686018427387903) (hl : b.length ≤ 1000000) (hwi : Wi S T x) (hT : T ≤ 1000000000) (hx : x ≤ 100000000000) :
  Calls Try.prog 33 #[.pointer (some ⟨q, 0, none⟩), vb] w fun e w' => e = .returned (.int .i64 (e' : Int)) ∧ Rdk w' p S' ∧ RWalR w' q p n' ∧ Upd2 p q w w' := by
 have h := refAppend_any q p n vb b S T x w hq hS hb hn hl (Row.ne hS.rowC.choose_spec.1 (show Row w q 83 _ from hq) (by decide)) hwi hT hx
 rw [hW] at h
 exact h
theorem Snap_of (q p n : Nat) (vb : Value) (b : List UInt8) (S S' : PD) (e' : Nat) (hW : S.wsnap n b = (S', e')) (w : World) (hq : WalR w q p n) (hS : Dsk w p S) (hb : Sh w vb b) (hn : n < 4611686018427387903) (hl : b.length ≤ 1000000) (hm : S.left ≤ 9223372036854775807) (ht : S.n0.length + S.n1.length ≤ 10000000000) (hlim : -1000000000000 ≤ S.lim ∧ S.lim ≤ 1000000000000) :
  Calls Try.prog 19 #[.pointer (some ⟨q, 0, none⟩), vb] w fun e w' => e = .returned (.int .i64 (e' : Int)) ∧ Dsk w' p S' ∧ Upd p w w' := by
 have h := Snap_any q p n vb b S w hq hS hb hn hl (Row.ne hS.rowC.choose_spec (show Row w q 71 _ from hq) (by decide)) hm ht hlim
 rw [hW] at h
 exact h
theorem rSnap_of (q p n : Nat) (vb : Value) (b : List UInt8) (S S' : RD) (e' : Nat) (hW : S.rsnap n b = (S', e')) (T : Nat) (x : Int) (w : World) (hq : RWalR w q p n) (hS : Rdk w p S) (hb : Sh w vb b) (hn : n < 4611686018427387903) (hl : b.length ≤ 1000000) (hwi : Wi S T x) (hT : T ≤ 1000000000) (hx : x ≤ 100000000000) :
  Calls Try.prog 34 #[.pointer (some ⟨q, 0, none⟩), vb] w fun e w' => e = .returned (.int .i64 (e' : Int)) ∧ Rdk w' p S' ∧ Upd p w w' := by
 have h := refSnap_any q p n vb b S T x w hq hS hb hn hl (Row.ne hS.rowC.choose_spec.1 (show Row w q 83 _ from hq) (by decide)) hwi hT hx
 rw [hW] at h
 exact h
/-- The pair of the laws: two disks, two logs. -/
def Pr (w : World) (h p q : Nat) (S : PD) (R : RD) (X B0 : Nat) : Prop := ∃ wv vv, Row w h 50 [.pointer (some ⟨p, 0, none⟩), .pointer (some ⟨q, 0, none⟩), wv, vv] ∧ Dsk w p S ∧ Rdk w q R ∧ Logs w p q wv vv X B0
theorem Logs.keep {w w' : World} {p q X B0 : Nat} {wv vv : Value} (h : Logs w p q wv vv X B0) (hb : Below w.heap.size w w') : Logs w' p q wv vv X B0 := by
 rcases h with h | ⟨a, b, n, h1, h2, h3, h4, h5⟩
 ·exact .inl h
 ·exact .inr ⟨a, b, n, h1, h2, h3.keep hb, h4.keep hb, h5⟩
theorem Logs.more {w : World} {p q X Y B0 : Nat} {wv vv : Value} (h : Logs w p q wv vv X B0) (hX : X ≤ Y) : Logs w p q wv vv Y B0 := by
 rcases h with h | ⟨a, b, n, h1, h2, h3, h4, h5, h6⟩
 ·exact .inl h
 ·exact .inr ⟨a, b, n, h1, h2, h3, h4, Nat.le_trans h5 hX, h6⟩
theorem Logs.updP {w w' : World} {p q X B0 : Nat} {S : PD} {wv vv : Value} (h : Logs w p q wv vv X B0) (hS : Dsk w p S) (hu : Upd p w w') : Logs w' p q wv vv X B0 := by
 rcases h with h | ⟨a, b, n, h1, h2, h3, h4, h5⟩
 ·exact .inl h
 ·exact .inr ⟨a, b, n, h1, h2, hu.row h3 (Row.ne (show Row w a 71 _ from h3) hS.rowC.choose_spec (by decide)), hu.row h4 (Row.ne (show Row w b 83 _ from h4) hS.rowC.choose_spec (by decide)), h5⟩
theorem Logs.updQ {w w' : World} {p q X B0 : Nat} {R : RD} {wv vv : Value} (h : Logs w p q wv vv X B0) (hR : Rdk w q R) (hu : Upd q w w') : Logs w' p q wv vv X B0 := by
 rcases h with h | ⟨a, b, n, h1, h2, h3, h4, h5⟩
 ·exact .inl h
 ·exact .inr ⟨a, b, n, h1, h2, hu.row h3 (Row.ne (show Row w a 71 _ from h3) hR.rowC.choose_spec.1 (by decide)), hu.row h4 (Row.ne (show Row w b 83 _ from h4) hR.rowC.choose_spec.1 (by decide)), h5⟩
theorem Logs.ptr {w : World} {p q X B0 : Nat} {wv vv : Value} (h : Logs w p q wv vv X B0) : ∃ u v, wv = .pointer u ∧ vv = .pointer v := by
 rcases h with ⟨h1, h2⟩ | ⟨a, b, n, h1, h2, -⟩
 ·exact ⟨_, _, h1, h2⟩
 ·exact ⟨_, _, h1, h2⟩
/-- What both are behind an act. -/
def Behind (w : World) (h p q B0 T : Nat) (x : Int) (X : Nat) (w' : World) : Prop := ∃ S' R', Pr w' h p q S' R' (X + 50000000) B0 ∧ Sim S' R' ∧ Wi R' (T + 3000) (x + 10) ∧ Nxi R' (X + 50000000) ∧ Below B0 w w'
theorem does0n (N : Int) (xo : Option Addr) (co : Nat) (l : List UInt8) (h p q : Nat) (S : PD) (R : RD) (T : Nat) (x : Int) (X B0 : Nat) (w : World) (hrow : Row w h 50 [.pointer (some ⟨p, 0, none⟩), .pointer (some ⟨q, 0, none⟩), .pointer none, .pointer none]) (hS : Dsk w p S) (hR : Rdk w q R) (hsim : Sim S R) (hwi : Wi R T x) (hnx : Nxi R X) (hpq : p ≠ q) (hhp : h ≠ p) (hhq : h ≠ q) (hT : T ≤ 30000000) (hx0 : 0 ≤ x) (hx : x ≤ 1000000000) (hX : X ≤ 100000000000000) (hB : B0 ≤ h ∧ B0 ≤ p ∧ B0 ≤ q) (hB0 : B0 ≤ w.heap.size) (hsh : ∀ w', Below B0 w w' → Sh w' (.slice xo l.length co) l) (hlen : l.length ≤ 140737488355328) :
  Calls Try.prog 15 #[.pointer (some ⟨h, 0, none⟩), .agg #[.int .i64 0, .int .i64 N, .slice xo l.length co]] w fun e w' => e = .returned (.bool true) ∧ Behind w h p q B0 T x X w' := by
 have hm : S.left ≤ 9223372036854775807 := by
  have h1 := hwi.left
  rcases hsim.left with ⟨-, h2, -⟩ | ⟨-, h2⟩ <;> omega
 have h0l : S.n0.length ≤ 50000000 := by rw [hsim.n0]; have := hwi.bd.a0; omega
 have h1l : S.n1.length ≤ 50000000 := by rw [hsim.n1]; have := hwi.bd.a1; omega
 have h0f : S.f0.length ≤ 50000000 := by rw [hsim.f0]; have := hwi.bd.f0; omega
 have h1f : S.f1.length ≤ 50000000 := by rw [hsim.f1]; have := hwi.bd.f1; omega
 have hlim : -1000000000000 ≤ S.lim ∧ S.lim ≤ 1000000000000 := by rw [hsim.lim]; have := hwi.lim; omega
 have HH := Lib.hid hrow
 have HS := Lib.hid hS
 have HR := Lib.hid hR
 have HSH := Lib.hid hsh
 have HWI := Lib.hid hwi
 have HNX := Lib.hid hnx
 have HSIM := Lib.hid hsim
 have HLOG : Hid (Logs w p q (.pointer none) (.pointer none) X B0) := Lib.hid (.inl ⟨rfl, rfl⟩)
 clear hrow hS hR hsh hwi hnx hsim
 have hhs := HH.out.lt
 have hps := HS.out.lt
 have hqs := HR.out.lt
 have hba := balloc (Below.refl w.heap.size w) (.cells #[.int .i64 0, .int .i64 N, .slice xo l.length co] 38)
 have HBA := Lib.hid hba
 clear hba
 go_enter Try.func15, Try.ntmps15
 go_upto_region 4 with (go_at_call 9; refine (bytes_act 0 N xo co l _ (HSH.out _ (HBA.out.mono hB0)) hlen).mono ?_; rintro e w1 ⟨rfl, hb1⟩; have hb01 := bstep HBA.out hb1; have H1 := Lib.hid (HH.out.keep hb01); have D1 := Lib.hid (HS.out.keepB hb01); have R1 := Lib.hid (HR.out.keepB hb01); have L1 := Lib.hid (HLOG.out.keep hb01); have A1 := Lib.hid ((Row.new w 38 [.int .i64 0, .int .i64 N, .slice xo l.length co]).keep hb1); have B1 := Lib.hid (hb01.mono hB0); have hs1 := hb01.size; have SH1 := Lib.hid (fun w' hb => (HSH.out w' hb).taken); have hbl : (l.take 3000).length ≤ 3000 := (by rw [List.length_take]; omega); generalize l.take 3000 = b at *; have a0 := Row.cell (A1.out) 0; have a1 := Row.cell (A1.out) 1; have a2 := Row.cell (A1.out) 2; simp only [List.getElem?_cons_succ, List.getElem?_cons_zero] at a0 a1 a2; have c0 := Row.cell (H1.out) 0; have c1 := Row.cell (H1.out) 1; have c2 := Row.cell (H1.out) 2; have c3 := Row.cell (H1.out) 3; simp only [List.getElem?_cons_succ, List.getElem?_cons_zero] at c0 c1 c2 c3; clear hb1 hb01 HH HS HR HLOG HBA HSH)
 have bd := (Below.refl w1.heap.size w1).drew
 have HW := Lib.hid (H1.out.keep bd)
 have DW := Lib.hid (D1.out.keepB bd)
 have RW := Lib.hid (R1.out.keepB bd)
 have LW := Lib.hid (L1.out.keep bd)
 have AW := Lib.hid (A1.out.keep bd)
 have BW := Lib.hid (B1.out.trans (bd.mono (by omega)))
 have hsW : w.heap.size ≤ (World.drew w1).heap.size := by have := bd.size; omega
 clear a0 a1 a2 c0 c1 c2 c3 H1 D1 R1 L1 A1 B1 bd hs1
 refine wp_region_held_drew (S := fun w' => Row w' h 50 [.pointer (some ⟨p, 0, none⟩), .pointer (some ⟨q, 0, none⟩), .pointer none, .pointer none]) (by kernel_rfl) (by exact HW.out) (fun hHeld => ?_)
 generalize World.drew w1 = W at *
 refine tH (i := 0) (v := ?_) (y := (Or.inl ⟨by rfl, ?_⟩)) (h := ?_)
 rotate_left
 ·intro w _; go_simp; try with_reducible rfl
 try simp only [Act.put, List.setIfInBounds_toArray, List.set_cons_zero, List.set_cons_succ, Array.replicate]
 refine tH (i := 1) (v := ?_) (y := (Or.inl ⟨by rfl, ?_⟩)) (h := ?_)
 rotate_left
 ·intro w _; go_simp; try with_reducible rfl
 try simp only [Act.put, List.setIfInBounds_toArray, List.set_cons_zero, List.set_cons_succ, Array.replicate]
 refine tH (i := 2) (v := ?_) (y := (Or.inl ⟨by rfl, ?_⟩)) (h := ?_)
 rotate_left
 ·intro w _; go_simp; try with_reducible rfl
 try simp only [Act.put, List.setIfInBounds_toArray, List.set_cons_zero, List.set_cons_succ, Array.replicate]
 refine tH (i := 3) (v := ?_) (y := (Or.inl ⟨by rfl, ?_⟩)) (h := ?_)
 rotate_left
 ·intro w hSS; have c2 := Row.cell hSS 2; simp only [List.getElem?_cons_succ, List.getElem?_cons_zero] at c2; go_simp; try with_reducible rfl
 try simp only [Act.put, List.setIfInBounds_toArray, List.set_cons_zero, List.set_cons_succ, Array.replicate]
 refine tH (i := 4) (v := ?_) (y := (Or.inl ⟨by rfl, ?_⟩)) (h := ?_)
 rotate_left
 ·intro w _; go_simp; try with_reducible rfl
 try simp only [Act.put, List.setIfInBounds_toArray, List.set_cons_zero, List.set_cons_succ, Array.replicate]
 refine tH (i := 5) (v := ?_) (y := (Or.inl ⟨by rfl, ?_⟩)) (h := ?_)
 rotate_left
 ·intro w _; go_simp; try with_reducible rfl
 try simp only [Act.put, List.setIfInBounds_toArray, List.set_cons_zero, List.set_cons_succ, Array.replicate]
 refine tH (i := 6) (v := undef) (y := (Or.inr ⟨by rfl, rfl⟩)) (h := ?_)
 try simp only [Act.put, List.setIfInBounds_toArray, List.set_cons_zero, List.set_cons_succ, Array.replicate]
 refine tH (i := 7) (v := undef) (y := (Or.inr ⟨by rfl, rfl⟩)) (h := ?_)
 try simp only [Act.put, List.setIfInBounds_toArray, List.set_cons_zero, List.set_cons_succ, Array.replicate]
 refine tH (i := 8) (v := undef) (y := (Or.inr ⟨by rfl, rfl⟩)) (h := ?_)
 try simp only [Act.put, List.setIfInBounds_toArray, List.set_cons_zero, List.set_cons_succ, Array.replicate]
 refine tH (i := 9) (v := undef) (y := (Or.inr ⟨by rfl, rfl⟩)) (h := ?_)
 try simp only [Act.put, List.setIfInBounds_toArray, List.set_cons_zero, List.set_cons_succ, Array.replicate]
 refine tH (i := 10) (v := undef) (y := (Or.inr ⟨by rfl, rfl⟩)) (h := ?_)
 try simp only [Act.put, List.setIfInBounds_toArray, List.set_cons_zero, List.set_cons_succ, Array.replicate]
 refine tH (i := 11) (v := undef) (y := (Or.inr ⟨by rfl, rfl⟩)) (h := ?_)
 try simp only [Act.put, List.setIfInBounds_toArray, List.set_cons_zero, List.set_cons_succ, Array.replicate]
 refine tH (i := 12) (v := undef) (y := (Or.inr ⟨by rfl, rfl⟩)) (h := ?_)
 try simp only [Act.put, List.setIfInBounds_toArray, List.set_cons_zero, List.set_cons_succ, Array.replicate]
 refine tH (i := 13) (v := undef) (y := (Or.inr ⟨by rfl, rfl⟩)) (h := ?_)
 try simp only [Act.put, List.setIfInBounds_toArray, List.set_cons_zero, List.set_cons_succ, Array.replicate]
 refine tH (i := 14) (v := undef) (y := (Or.inr ⟨by rfl, rfl⟩)) (h := ?_)
 try simp only [Act.put, List.setIfInBounds_toArray, List.set_cons_zero, List.set_cons_succ, Array.replicate]
 refine tH (i := 15) (v := undef) (y := (Or.inr ⟨by rfl, rfl⟩)) (h := ?_)
 try simp only [Act.put, List.setIfInBounds_toArray, List.set_cons_zero, List.set_cons_succ, Array.replicate]
 refine tH (i := 16) (v := undef) (y := (Or.inr ⟨by rfl, rfl⟩)) (h := ?_)
 try simp only [Act.put, List.setIfInBounds_toArray, List.set_cons_zero, List.set_cons_succ, Array.replicate]
 refine tH (i := 17) (v := undef) (y := (Or.inr ⟨by rfl, rfl⟩)) (h := ?_)
 try simp only [Act.put, List.setIfInBounds_toArray, List.set_cons_zero, List.set_cons_succ, Array.replicate]
 refine tH (i := 18) (v := undef) (y := (Or.inr ⟨by rfl, rfl⟩)) (h := ?_)
 try simp only [Act.put, List.setIfInBounds_toArray, List.set_cons_zero, List.set_cons_succ, Array.replicate]
 refine tH (i := 19) (v := undef) (y := (Or.inr ⟨by rfl, rfl⟩)) (h := ?_)
 try simp only [Act.put, List.setIfInBounds_toArray, List.set_cons_zero, List.set_cons_succ, Array.replicate]
 refine tH (i := 20) (v := undef) (y := (Or.inr ⟨by rfl, rfl⟩)) (h := ?_)
 try simp only [Act.put, List.setIfInBounds_toArray, List.set_cons_zero, List.set_cons_succ, Array.replicate]
 refine tH (i := 21) (v := undef) (y := (Or.inr ⟨by rfl, rfl⟩)) (h := ?_)
 try simp only [Act.put, List.setIfInBounds_toArray, List.set_cons_zero, List.set_cons_succ, Array.replicate]
 refine tH (i := 22) (v := undef) (y := (Or.inr ⟨by rfl, rfl⟩)) (h := ?_)
 try simp only [Act.put, List.setIfInBounds_toArray, List.set_cons_zero, List.set_cons_succ, Array.replicate]
 refine tH (i := 23) (v := undef) (y := (Or.inr ⟨by rfl, rfl⟩)) (h := ?_)
 try simp only [Act.put, List.setIfInBounds_toArray, List.set_cons_zero, List.set_cons_succ, Array.replicate]
 refine tH (i := 24) (v := undef) (y := (Or.inr ⟨by rfl, rfl⟩)) (h := ?_)
 try simp only [Act.put, List.setIfInBounds_toArray, List.set_cons_zero, List.set_cons_succ, Array.replicate]
 refine tH (i := 25) (v := undef) (y := (Or.inr ⟨by rfl, rfl⟩)) (h := ?_)
 try simp only [Act.put, List.setIfInBounds_toArray, List.set_cons_zero, List.set_cons_succ, Array.replicate]
 refine tH (i := 26) (v := undef) (y := (Or.inr ⟨by rfl, rfl⟩)) (h := ?_)
 try simp only [Act.put, List.setIfInBounds_toArray, List.set_cons_zero, List.set_cons_succ, Array.replicate]
 refine tH (i := 27) (v := undef) (y := (Or.inr ⟨by rfl, rfl⟩)) (h := ?_)
 try simp only [Act.put, List.setIfInBounds_toArray, List.set_cons_zero, List.set_cons_succ, Array.replicate]
 refine tH (i := 28) (v := undef) (y := (Or.inr ⟨by rfl, rfl⟩)) (h := ?_)
 try simp only [Act.put, List.setIfInBounds_toArray, List.set_cons_zero, List.set_cons_succ, Array.replicate]
 refine tH (i := 29) (v := undef) (y := (Or.inr ⟨by rfl, rfl⟩)) (h := ?_)
 try simp only [Act.put, List.setIfInBounds_toArray, List.set_cons_zero, List.set_cons_succ, Array.replicate]
 refine tH (i := 30) (v := undef) (y := (Or.inr ⟨by rfl, rfl⟩)) (h := ?_)
 try simp only [Act.put, List.setIfInBounds_toArray, List.set_cons_zero, List.set_cons_succ, Array.replicate]
 refine tH (i := 31) (v := undef) (y := (Or.inr ⟨by rfl, rfl⟩)) (h := ?_)
 try simp only [Act.put, List.setIfInBounds_toArray, List.set_cons_zero, List.set_cons_succ, Array.replicate]
 refine tH (i := 32) (v := undef) (y := (Or.inr ⟨by rfl, rfl⟩)) (h := ?_)
 try simp only [Act.put, List.setIfInBounds_toArray, List.set_cons_zero, List.set_cons_succ, Array.replicate]
 refine tH (i := 33) (v := undef) (y := (Or.inr ⟨by rfl, rfl⟩)) (h := ?_)
 try simp only [Act.put, List.setIfInBounds_toArray, List.set_cons_zero, List.set_cons_succ, Array.replicate]
 refine tH (i := 34) (v := undef) (y := (Or.inr ⟨by rfl, rfl⟩)) (h := ?_)
 try simp only [Act.put, List.setIfInBounds_toArray, List.set_cons_zero, List.set_cons_succ, Array.replicate]
 refine tH (i := 35) (v := undef) (y := (Or.inr ⟨by rfl, rfl⟩)) (h := ?_)
 try simp only [Act.put, List.setIfInBounds_toArray, List.set_cons_zero, List.set_cons_succ, Array.replicate]
 refine tH (i := 36) (v := ?_) (y := (Or.inl ⟨by rfl, ?_⟩)) (h := ?_)
 rotate_left
 ·intro w _; go_simp; try with_reducible rfl
 try simp only [Act.put, List.setIfInBounds_toArray, List.set_cons_zero, List.set_cons_succ, Array.replicate]
 refine tH (i := 37) (v := ?_) (y := (Or.inl ⟨by rfl, ?_⟩)) (h := ?_)
 rotate_left
 ·intro w _; go_simp; try with_reducible rfl
 try simp only [Act.put, List.setIfInBounds_toArray, List.set_cons_zero, List.set_cons_succ, Array.replicate]
 refine wpAnyH_done (by kernel_rfl) ?_ _
 go_wp2_with fail
 go_ret
 exact ⟨rfl, S, R, ⟨_, _, HW.out, DW.out, RW.out, .inl ⟨rfl, rfl⟩⟩, HSIM.out, HWI.out.more (by omega) (by omega), HNX.out.more (by omega), BW.out⟩
theorem does1n (N : Int) (xo : Option Addr) (co : Nat) (l : List UInt8) (h p q : Nat) (S : PD) (R : RD) (T : Nat) (x : Int) (X B0 : Nat) (w : World) (hrow : Row w h 50 [.pointer (some ⟨p, 0, none⟩), .pointer (some ⟨q, 0, none⟩), .pointer none, .pointer none]) (hS : Dsk w p S) (hR : Rdk w q R) (hsim : Sim S R) (hwi : Wi R T x) (hnx : Nxi R X) (hpq : p ≠ q) (hhp : h ≠ p) (hhq : h ≠ q) (hT : T ≤ 30000000) (hx0 : 0 ≤ x) (hx : x ≤ 1000000000) (hX : X ≤ 100000000000000) (hB : B0 ≤ h ∧ B0 ≤ p ∧ B0 ≤ q) (hB0 : B0 ≤ w.heap.size) (hsh : ∀ w', Below B0 w w' → Sh w' (.slice xo l.length co) l) (hlen : l.length ≤ 140737488355328) :
  Calls Try.prog 15 #[.pointer (some ⟨h, 0, none⟩), .agg #[.int .i64 1, .int .i64 N, .slice xo l.length co]] w fun e w' => e = .returned (.bool true) ∧ Behind w h p q B0 T x X w' := by
 have hm : S.left ≤ 9223372036854775807 := by
  have h1 := hwi.left
  rcases hsim.left with ⟨-, h2, -⟩ | ⟨-, h2⟩ <;> omega
 have h0l : S.n0.length ≤ 50000000 := by rw [hsim.n0]; have := hwi.bd.a0; omega
 have h1l : S.n1.length ≤ 50000000 := by rw [hsim.n1]; have := hwi.bd.a1; omega
 have h0f : S.f0.length ≤ 50000000 := by rw [hsim.f0]; have := hwi.bd.f0; omega
 have h1f : S.f1.length ≤ 50000000 := by rw [hsim.f1]; have := hwi.bd.f1; omega
 have hlim : -1000000000000 ≤ S.lim ∧ S.lim ≤ 1000000000000 := by rw [hsim.lim]; have := hwi.lim; omega
 have HH := Lib.hid hrow
 have HS := Lib.hid hS
 have HR := Lib.hid hR
 have HSH := Lib.hid hsh
 have HWI := Lib.hid hwi
 have HNX := Lib.hid hnx
 have HSIM := Lib.hid hsim
 have HLOG : Hid (Logs w p q (.pointer none) (.pointer none) X B0) := Lib.hid (.inl ⟨rfl, rfl⟩)
 clear hrow hS hR hsh hwi hnx hsim
 have hhs := HH.out.lt
 have hps := HS.out.lt
 have hqs := HR.out.lt
 have hba := balloc (Below.refl w.heap.size w) (.cells #[.int .i64 1, .int .i64 N, .slice xo l.length co] 38)
 have HBA := Lib.hid hba
 clear hba
 go_enter Try.func15, Try.ntmps15
 go_upto_region 6 with (go_at_call 9; refine (bytes_act 1 N xo co l _ (HSH.out _ (HBA.out.mono hB0)) hlen).mono ?_; rintro e w1 ⟨rfl, hb1⟩; have hb01 := bstep HBA.out hb1; have H1 := Lib.hid (HH.out.keep hb01); have D1 := Lib.hid (HS.out.keepB hb01); have R1 := Lib.hid (HR.out.keepB hb01); have L1 := Lib.hid (HLOG.out.keep hb01); have A1 := Lib.hid ((Row.new w 38 [.int .i64 1, .int .i64 N, .slice xo l.length co]).keep hb1); have B1 := Lib.hid (hb01.mono hB0); have hs1 := hb01.size; have SH1 := Lib.hid (fun w' hb => (HSH.out w' hb).taken); have hbl : (l.take 3000).length ≤ 3000 := (by rw [List.length_take]; omega); generalize l.take 3000 = b at *; have a0 := Row.cell (A1.out) 0; have a1 := Row.cell (A1.out) 1; have a2 := Row.cell (A1.out) 2; simp only [List.getElem?_cons_succ, List.getElem?_cons_zero] at a0 a1 a2; have c0 := Row.cell (H1.out) 0; have c1 := Row.cell (H1.out) 1; have c2 := Row.cell (H1.out) 2; have c3 := Row.cell (H1.out) 3; simp only [List.getElem?_cons_succ, List.getElem?_cons_zero] at c0 c1 c2 c3; clear hb1 hb01 HH HS HR HLOG HBA HSH)
 have bd := (Below.refl w1.heap.size w1).drew
 have HW := Lib.hid (H1.out.keep bd)
 have DW := Lib.hid (D1.out.keepB bd)
 have RW := Lib.hid (R1.out.keepB bd)
 have LW := Lib.hid (L1.out.keep bd)
 have AW := Lib.hid (A1.out.keep bd)
 have BW := Lib.hid (B1.out.trans (bd.mono (by omega)))
 have hsW : w.heap.size ≤ (World.drew w1).heap.size := by have := bd.size; omega
 clear a0 a1 a2 c0 c1 c2 c3 H1 D1 R1 L1 A1 B1 bd hs1
 refine wp_region_held_drew (S := fun w' => Row w' h 50 [.pointer (some ⟨p, 0, none⟩), .pointer (some ⟨q, 0, none⟩), .pointer none, .pointer none]) (by kernel_rfl) (by exact HW.out) (fun hHeld => ?_)
 generalize World.drew w1 = W at *
 refine tH (i := 0) (v := ?_) (y := (Or.inl ⟨by rfl, ?_⟩)) (h := ?_)
 rotate_left
 ·intro w _; go_simp; try with_reducible rfl
 try simp only [Act.put, List.setIfInBounds_toArray, List.set_cons_zero, List.set_cons_succ, Array.replicate]
 refine tH (i := 1) (v := ?_) (y := (Or.inl ⟨by rfl, ?_⟩)) (h := ?_)
 rotate_left
 ·intro w _; go_simp; try with_reducible rfl
 try simp only [Act.put, List.setIfInBounds_toArray, List.set_cons_zero, List.set_cons_succ, Array.replicate]
 refine tH (i := 2) (v := ?_) (y := (Or.inl ⟨by rfl, ?_⟩)) (h := ?_)
 rotate_left
 ·intro w _; go_simp; try with_reducible rfl
 try simp only [Act.put, List.setIfInBounds_toArray, List.set_cons_zero, List.set_cons_succ, Array.replicate]
 refine tH (i := 3) (v := ?_) (y := (Or.inl ⟨by rfl, ?_⟩)) (h := ?_)
 rotate_left
 ·intro w hSS; have c2 := Row.cell hSS 2; simp only [List.getElem?_cons_succ, List.getElem?_cons_zero] at c2; go_simp; try with_reducible rfl
 try simp only [Act.put, List.setIfInBounds_toArray, List.set_cons_zero, List.set_cons_succ, Array.replicate]
 refine tH (i := 4) (v := ?_) (y := (Or.inl ⟨by rfl, ?_⟩)) (h := ?_)
 rotate_left
 ·intro w _; go_simp; try with_reducible rfl
 try simp only [Act.put, List.setIfInBounds_toArray, List.set_cons_zero, List.set_cons_succ, Array.replicate]
 refine tH (i := 5) (v := ?_) (y := (Or.inl ⟨by rfl, ?_⟩)) (h := ?_)
 rotate_left
 ·intro w _; go_simp; try with_reducible rfl
 try simp only [Act.put, List.setIfInBounds_toArray, List.set_cons_zero, List.set_cons_succ, Array.replicate]
 refine tH (i := 6) (v := undef) (y := (Or.inr ⟨by rfl, rfl⟩)) (h := ?_)
 try simp only [Act.put, List.setIfInBounds_toArray, List.set_cons_zero, List.set_cons_succ, Array.replicate]
 refine tH (i := 7) (v := undef) (y := (Or.inr ⟨by rfl, rfl⟩)) (h := ?_)
 try simp only [Act.put, List.setIfInBounds_toArray, List.set_cons_zero, List.set_cons_succ, Array.replicate]
 refine tH (i := 8) (v := undef) (y := (Or.inr ⟨by rfl, rfl⟩)) (h := ?_)
 try simp only [Act.put, List.setIfInBounds_toArray, List.set_cons_zero, List.set_cons_succ, Array.replicate]
 refine tH (i := 9) (v := undef) (y := (Or.inr ⟨by rfl, rfl⟩)) (h := ?_)
 try simp only [Act.put, List.setIfInBounds_toArray, List.set_cons_zero, List.set_cons_succ, Array.replicate]
 refine tH (i := 10) (v := undef) (y := (Or.inr ⟨by rfl, rfl⟩)) (h := ?_)
 try simp only [Act.put, List.setIfInBounds_toArray, List.set_cons_zero, List.set_cons_succ, Array.replicate]
 refine tH (i := 11) (v := undef) (y := (Or.inr ⟨by rfl, rfl⟩)) (h := ?_)
 try simp only [Act.put, List.setIfInBounds_toArray, List.set_cons_zero, List.set_cons_succ, Array.replicate]
 refine tH (i := 12) (v := undef) (y := (Or.inr ⟨by rfl, rfl⟩)) (h := ?_)
 try simp only [Act.put, List.setIfInBounds_toArray, List.set_cons_zero, List.set_cons_succ, Array.replicate]
 refine tH (i := 13) (v := undef) (y := (Or.inr ⟨by rfl, rfl⟩)) (h := ?_)
 try simp only [Act.put, List.setIfInBounds_toArray, List.set_cons_zero, List.set_cons_succ, Array.replicate]
 refine tH (i := 14) (v := undef) (y := (Or.inr ⟨by rfl, rfl⟩)) (h := ?_)
 try simp only [Act.put, List.setIfInBounds_toArray, List.set_cons_zero, List.set_cons_succ, Array.replicate]
 refine tH (i := 15) (v := undef) (y := (Or.inr ⟨by rfl, rfl⟩)) (h := ?_)
 try simp only [Act.put, List.setIfInBounds_toArray, List.set_cons_zero, List.set_cons_succ, Array.replicate]
 refine tH (i := 16) (v := undef) (y := (Or.inr ⟨by rfl, rfl⟩)) (h := ?_)
 try simp only [Act.put, List.setIfInBounds_toArray, List.set_cons_zero, List.set_cons_succ, Array.replicate]
 refine tH (i := 17) (v := undef) (y := (Or.inr ⟨by rfl, rfl⟩)) (h := ?_)
 try simp only [Act.put, List.setIfInBounds_toArray, List.set_cons_zero, List.set_cons_succ, Array.replicate]
 refine tH (i := 18) (v := undef) (y := (Or.inr ⟨by rfl, rfl⟩)) (h := ?_)
 try simp only [Act.put, List.setIfInBounds_toArray, List.set_cons_zero, List.set_cons_succ, Array.replicate]
 refine tH (i := 19) (v := undef) (y := (Or.inr ⟨by rfl, rfl⟩)) (h := ?_)
 try simp only [Act.put, List.setIfInBounds_toArray, List.set_cons_zero, List.set_cons_succ, Array.replicate]
 refine tH (i := 20) (v := undef) (y := (Or.inr ⟨by rfl, rfl⟩)) (h := ?_)
 try simp only [Act.put, List.setIfInBounds_toArray, List.set_cons_zero, List.set_cons_succ, Array.replicate]
 refine tH (i := 21) (v := ?_) (y := (Or.inl ⟨by rfl, ?_⟩)) (h := ?_)
 rotate_left
 ·intro w _; go_simp; try with_reducible rfl
 try simp only [Act.put, List.setIfInBounds_toArray, List.set_cons_zero, List.set_cons_succ, Array.replicate]
 refine tH (i := 22) (v := ?_) (y := (Or.inl ⟨by rfl, ?_⟩)) (h := ?_)
 rotate_left
 ·intro w _; go_simp; try with_reducible rfl
 try simp only [Act.put, List.setIfInBounds_toArray, List.set_cons_zero, List.set_cons_succ, Array.replicate]
 refine wpAnyH_done (by kernel_rfl) ?_ _
 go_wp2_with fail
 go_ret
 exact ⟨rfl, S, R, ⟨_, _, HW.out, DW.out, RW.out, .inl ⟨rfl, rfl⟩⟩, HSIM.out, HWI.out.more (by omega) (by omega), HNX.out.more (by omega), BW.out⟩
theorem does0y (qa qb n : Nat) (N : Int) (xo : Option Addr) (co : Nat) (l : List UInt8) (h p q : Nat) (S : PD) (R : RD) (T : Nat) (x : Int) (X B0 : Nat) (w : World) (hrow : Row w h 50 [.pointer (some ⟨p, 0, none⟩), .pointer (some ⟨q, 0, none⟩), .pointer (some ⟨qa, 0, none⟩), .pointer (some ⟨qb, 0, none⟩)]) (hS : Dsk w p S) (hR : Rdk w q R) (hqa : WalR w qa p n) (hqb : RWalR w qb q n) (hnX : n ≤ X) (hBa : B0 ≤ qa) (hBb : B0 ≤ qb) (hsim : Sim S R) (hwi : Wi R T x) (hnx : Nxi R X) (hpq : p ≠ q) (hhp : h ≠ p) (hhq : h ≠ q) (hT : T ≤ 30000000) (hx0 : 0 ≤ x) (hx : x ≤ 1000000000) (hX : X ≤ 100000000000000) (hB : B0 ≤ h ∧ B0 ≤ p ∧ B0 ≤ q) (hB0 : B0 ≤ w.heap.size) (hsh : ∀ w', Below B0 w w' → Sh w' (.slice xo l.length co) l) (hlen : l.length ≤ 140737488355328) :
  Calls Try.prog 15 #[.pointer (some ⟨h, 0, none⟩), .agg #[.int .i64 0, .int .i64 N, .slice xo l.length co]] w fun e w' => e = .returned (.bool true) ∧ Behind w h p q B0 T x X w' := by
 have hm : S.left ≤ 9223372036854775807 := by
  have h1 := hwi.left
  rcases hsim.left with ⟨-, h2, -⟩ | ⟨-, h2⟩ <;> omega
 have h0l : S.n0.length ≤ 50000000 := by rw [hsim.n0]; have := hwi.bd.a0; omega
 have h1l : S.n1.length ≤ 50000000 := by rw [hsim.n1]; have := hwi.bd.a1; omega
 have h0f : S.f0.length ≤ 50000000 := by rw [hsim.f0]; have := hwi.bd.f0; omega
 have h1f : S.f1.length ≤ 50000000 := by rw [hsim.f1]; have := hwi.bd.f1; omega
 have hlim : -1000000000000 ≤ S.lim ∧ S.lim ≤ 1000000000000 := by rw [hsim.lim]; have := hwi.lim; omega
 have HH := Lib.hid hrow
 have HS := Lib.hid hS
 have HR := Lib.hid hR
 have HSH := Lib.hid hsh
 have HWI := Lib.hid hwi
 have HNX := Lib.hid hnx
 have HSIM := Lib.hid hsim
 have hwd := hsim.wapp n (l.take 3000)
 have hni := hnx.rapp n (l.take 3000)
 have hwi' := hwi.rapp n (l.take 3000)
 rcases hwa : S.wapp n (l.take 3000) with ⟨S', n', e'⟩
 rcases hra : R.rapp n (l.take 3000) with ⟨R', n2, e2⟩
 rw [hwa, hra] at hwd
 rw [hra] at hni hwi'
 obtain ⟨he, hsim'⟩ := hwd
 dsimp only at he hsim' hni hwi'
 simp only [Prod.mk.injEq] at he
 obtain ⟨he1, he2⟩ := he
 subst he1
 subst he2
 have HWA := Lib.hid hwa
 have HRA := Lib.hid hra
 have HSIM' := Lib.hid hsim'
 have HNI := Lib.hid hni
 have HWI' := Lib.hid hwi'
 clear hwa hra hsim' hni hwi'
 have HLOG : Hid (Logs w p q (.pointer (some ⟨qa, 0, none⟩)) (.pointer (some ⟨qb, 0, none⟩)) X B0) := Lib.hid (.inr ⟨qa, qb, n, rfl, rfl, hqa, hqb, hnX, hBa, hBb⟩)
 have QA0 := Lib.hid hqa
 have QB0 := Lib.hid hqb
 clear hrow hS hR hsh hwi hnx hsim hqa hqb
 have hhs := HH.out.lt
 have hps := HS.out.lt
 have hqs := HR.out.lt
 have hba := balloc (Below.refl w.heap.size w) (.cells #[.int .i64 0, .int .i64 N, .slice xo l.length co] 38)
 have HBA := Lib.hid hba
 clear hba
 go_enter Try.func15, Try.ntmps15
 go_upto_region 4 with (go_at_call 9; refine (bytes_act 0 N xo co l _ (HSH.out _ (HBA.out.mono hB0)) hlen).mono ?_; rintro e w1 ⟨rfl, hb1⟩; have hb01 := bstep HBA.out hb1; have H1 := Lib.hid (HH.out.keep hb01); have D1 := Lib.hid (HS.out.keepB hb01); have R1 := Lib.hid (HR.out.keepB hb01); have L1 := Lib.hid (HLOG.out.keep hb01); have QA1 := Lib.hid (WalR.keep QA0.out hb01); have QB1 := Lib.hid (RWalR.keep QB0.out hb01); have A1 := Lib.hid ((Row.new w 38 [.int .i64 0, .int .i64 N, .slice xo l.length co]).keep hb1); have B1 := Lib.hid (hb01.mono hB0); have hs1 := hb01.size; have SH1 := Lib.hid (fun w' hb => (HSH.out w' hb).taken); have hbl : (l.take 3000).length ≤ 3000 := (by rw [List.length_take]; omega); generalize l.take 3000 = b at *; have a0 := Row.cell (A1.out) 0; have a1 := Row.cell (A1.out) 1; have a2 := Row.cell (A1.out) 2; simp only [List.getElem?_cons_succ, List.getElem?_cons_zero] at a0 a1 a2; have c0 := Row.cell (H1.out) 0; have c1 := Row.cell (H1.out) 1; have c2 := Row.cell (H1.out) 2; have c3 := Row.cell (H1.out) 3; simp only [List.getElem?_cons_succ, List.getElem?_cons_zero] at c0 c1 c2 c3; clear hb1 hb01 HH HS HR HLOG QA0 QB0 HBA HSH)
 have bd := (Below.refl w1.heap.size w1).drew
 have HW := Lib.hid (H1.out.keep bd)
 have DW := Lib.hid (D1.out.keepB bd)
 have RW := Lib.hid (R1.out.keepB bd)
 have LW := Lib.hid (L1.out.keep bd)
 have QAW := Lib.hid (QA1.out.keep bd)
 have QBW := Lib.hid (QB1.out.keep bd)
 have AW := Lib.hid (A1.out.keep bd)
 have BW := Lib.hid (B1.out.trans (bd.mono (by omega)))
 have hsW : w.heap.size ≤ (World.drew w1).heap.size := by have := bd.size; omega
 clear a0 a1 a2 c0 c1 c2 c3 H1 D1 R1 L1 QA1 QB1 A1 B1 bd hs1
 have hap := Row.ne (show Row _ qa 71 _ from QAW.out) HW.out (by decide)
 have hbp := Row.ne (show Row _ qb 83 _ from QBW.out) HW.out (by decide)
 have hab := Row.ne (show Row _ qa 71 _ from QAW.out) (show Row _ qb 83 _ from QBW.out) (by decide)
 have hqaq := Row.ne (show Row _ qa 71 _ from QAW.out) RW.out.rowC.choose_spec.1 (by decide)
 have hqap := Row.ne (show Row _ qa 71 _ from QAW.out) DW.out.rowC.choose_spec (by decide)
 have hqbp := Row.ne (show Row _ qb 83 _ from QBW.out) DW.out.rowC.choose_spec (by decide)
 have hqbq := Row.ne (show Row _ qb 83 _ from QBW.out) RW.out.rowC.choose_spec.1 (by decide)
 refine wp_region_held_drew (S := fun w' => Row w' h 50 [.pointer (some ⟨p, 0, none⟩), .pointer (some ⟨q, 0, none⟩), .pointer (some ⟨qa, 0, none⟩), .pointer (some ⟨qb, 0, none⟩)]) (by kernel_rfl) (by exact HW.out) (fun hHeld => ?_)
 generalize World.drew w1 = W at *
 refine tH (i := 0) (v := ?_) (y := (Or.inl ⟨by rfl, ?_⟩)) (h := ?_)
 rotate_left
 ·intro w _; go_simp; try with_reducible rfl
 try simp only [Act.put, List.setIfInBounds_toArray, List.set_cons_zero, List.set_cons_succ, Array.replicate]
 refine tH (i := 1) (v := ?_) (y := (Or.inl ⟨by rfl, ?_⟩)) (h := ?_)
 rotate_left
 ·intro w _; go_simp; try with_reducible rfl
 try simp only [Act.put, List.setIfInBounds_toArray, List.set_cons_zero, List.set_cons_succ, Array.replicate]
 refine tH (i := 2) (v := ?_) (y := (Or.inl ⟨by rfl, ?_⟩)) (h := ?_)
 rotate_left
 ·intro w _; go_simp; try with_reducible rfl
 try simp only [Act.put, List.setIfInBounds_toArray, List.set_cons_zero, List.set_cons_succ, Array.replicate]
 refine tH (i := 3) (v := ?_) (y := (Or.inl ⟨by rfl, ?_⟩)) (h := ?_)
 rotate_left
 ·intro w hSS; have c2 := Row.cell hSS 2; simp only [List.getElem?_cons_succ, List.getElem?_cons_zero] at c2; go_simp; try with_reducible rfl
 try simp only [Act.put, List.setIfInBounds_toArray, List.set_cons_zero, List.set_cons_succ, Array.replicate]
 refine tH (i := 4) (v := ?_) (y := (Or.inl ⟨by rfl, ?_⟩)) (h := ?_)
 rotate_left
 ·intro w _; go_simp; try with_reducible rfl
 try simp only [Act.put, List.setIfInBounds_toArray, List.set_cons_zero, List.set_cons_succ, Array.replicate]
 refine tH (i := 5) (v := ?_) (y := (Or.inl ⟨by rfl, ?_⟩)) (h := ?_)
 rotate_left
 ·intro w _; go_simp; try with_reducible rfl
 try simp only [Act.put, List.setIfInBounds_toArray, List.set_cons_zero, List.set_cons_succ, Array.replicate]
 refine tH (i := 6) (v := ?_) (y := (Or.inl ⟨by rfl, ?_⟩)) (h := ?_)
 rotate_left
 ·intro w _; go_simp; try with_reducible rfl
 try simp only [Act.put, List.setIfInBounds_toArray, List.set_cons_zero, List.set_cons_succ, Array.replicate]
 refine tH (i := 7) (v := ?_) (y := (Or.inl ⟨by rfl, ?_⟩)) (h := ?_)
 rotate_left
 ·intro w _; go_simp; try with_reducible rfl
 try simp only [Act.put, List.setIfInBounds_toArray, List.set_cons_zero, List.set_cons_succ, Array.replicate]
 refine tH (i := 8) (v := ?_) (y := (Or.inl ⟨by rfl, ?_⟩)) (h := ?_)
 rotate_left
 ·intro w _; go_simp; try with_reducible rfl
 try simp only [Act.put, List.setIfInBounds_toArray, List.set_cons_zero, List.set_cons_succ, Array.replicate]
 refine tH (i := 9) (v := ?_) (y := (Or.inl ⟨by rfl, ?_⟩)) (h := ?_)
 rotate_left
 ·intro w hSS; have c2 := Row.cell hSS 2; simp only [List.getElem?_cons_succ, List.getElem?_cons_zero] at c2; go_simp; try with_reducible rfl
 try simp only [Act.put, List.setIfInBounds_toArray, List.set_cons_zero, List.set_cons_succ, Array.replicate]
 refine tH (i := 11) (v := ?_) (y := (Or.inl ⟨by rfl, ?_⟩)) (h := ?_)
 rotate_left
 ·intro w _; go_simp; try with_reducible rfl
 try simp only [Act.put, List.setIfInBounds_toArray, List.set_cons_zero, List.set_cons_succ, Array.replicate]
 refine tH (i := 14) (v := ?_) (y := (Or.inl ⟨by rfl, ?_⟩)) (h := ?_)
 rotate_left
 ·intro w _; go_simp; try with_reducible rfl
 try simp only [Act.put, List.setIfInBounds_toArray, List.set_cons_zero, List.set_cons_succ, Array.replicate]
 refine tH (i := 15) (v := ?_) (y := (Or.inl ⟨by rfl, ?_⟩)) (h := ?_)
 rotate_left
 ·intro w _; go_simp; try with_reducible rfl
 try simp only [Act.put, List.setIfInBounds_toArray, List.set_cons_zero, List.set_cons_succ, Array.replicate]
 refine tH (i := 16) (v := ?_) (y := (Or.inl ⟨by rfl, ?_⟩)) (h := ?_)
 rotate_left
 ·intro w _; go_simp; try with_reducible rfl
 try simp only [Act.put, List.setIfInBounds_toArray, List.set_cons_zero, List.set_cons_succ, Array.replicate]
 refine tH (i := 17) (v := ?_) (y := (Or.inl ⟨by rfl, ?_⟩)) (h := ?_)
 rotate_left
 ·intro w hSS; have c3 := Row.cell hSS 3; simp only [List.getElem?_cons_succ, List.getElem?_cons_zero] at c3; go_simp; try with_reducible rfl
 try simp only [Act.put, List.setIfInBounds_toArray, List.set_cons_zero, List.set_cons_succ, Array.replicate]
 refine tH (i := 18) (v := ?_) (y := (Or.inl ⟨by rfl, ?_⟩)) (h := ?_)
 rotate_left
 ·intro w _; go_simp; try with_reducible rfl
 try simp only [Act.put, List.setIfInBounds_toArray, List.set_cons_zero, List.set_cons_succ, Array.replicate]
 refine rH [10] (h := ?_)
 refine cH (h := fun K hK => ?_) (hs := ?_)
 ·go_simp
  refine hK.out _ _ (by exact Row.alloc hHeld _) (fun hHeld => ?_)
  clear hK K
  try simp only [Act.put, List.setIfInBounds_toArray, List.set_cons_zero, List.set_cons_succ, Array.replicate]
  refine rH [12] (h := ?_)
  refine cH (h := fun K hK => ?_) (hs := ?_)
  ·go_loud (have hbw := balloc (Below.refl W.heap.size W) (.cells #[] 5); have HSH := Lib.hid (SH1.out _ (BW.out.trans (hbw.mono (by omega)))); refine step_app_own Try.underlying27 info_byte (by with_unfolding_all rfl) (.tmp 22) (.tmp 23) rfl rfl (Row.new W 5 []) rfl HSH.out (by omega) ?_; intro va wa hoa hba; have hbwa := bstep hbw hba; have DA := Lib.hid (DW.out.keepB hbwa); have RA := Lib.hid (RW.out.keepB hbwa); have QAA := Lib.hid (QAW.out.keep hbwa); have QBA := Lib.hid (QBW.out.keep hbwa); have BA := Lib.hid (BW.out.trans (hbwa.mono (by omega))); have hsa := hbwa.size)
   refine hK.out _ _ (by exact Row.keep hHeld hba) (fun hHeld => ?_)
   clear hK K
   try simp only [Act.put, List.setIfInBounds_toArray, List.set_cons_zero, List.set_cons_succ, Array.replicate]
   refine rH [13] (h := ?_)
   refine cH (h := fun K hK => ?_) (hs := ?_)
   ·go_simp; go_at_call 8; go_loud (refine (Append_of qa p n _ b S S' n' e' HWA.out _ QAA.out DA.out (by simpa using hoa.sh) (by omega) (by omega) hm (by omega) hlim).mono ?_; rintro e wb ⟨rfl, hdb, hqb', hub⟩; have RB := Lib.hid (hub.rdk RA.out DA.out QAA.out hpq.symm); have QBB := Lib.hid (show RWalR wb qb q n from hub.row QBA.out hqbp hab.symm); have BB := Lib.hid (BA.out.trans (hub.below (by omega) (by omega) (by omega))); have HBr := Lib.hid (hub.row hHeld hhp hap.symm); have hsb := (hub.below (B := 0) (by omega) (by omega) (by omega)).size; try go_simp)
    refine hK.out _ _ (by exact hub.row hHeld hhp hap.symm) (fun hHeld => ?_)
    clear hK K
    try simp only [Act.put, List.setIfInBounds_toArray, List.set_cons_zero, List.set_cons_succ, Array.replicate]
    refine rH [19] (h := ?_)
    refine cH (h := fun K hK => ?_) (hs := ?_)
    ·go_simp; go_at_call 33; go_loud (refine (rAppend_of qb q n _ b R R' n' e' HRA.out T x _ QBB.out RB.out (SH1.out _ BB.out) (by omega) (by omega) HWI.out (by omega) (by omega)).mono ?_; rintro e wc ⟨rfl, hdc, hqc, huc⟩; have DC := Lib.hid (huc.dsk hdb RB.out QBB.out hpq); have QAC := Lib.hid (show WalR wc qa p n' from huc.row hqb' hqaq hab); have BC := Lib.hid (BB.out.trans (huc.below (by omega) (by omega) (by omega))); try go_simp)
     refine hK.out _ _ (by exact huc.row hHeld hhq hbp.symm) (fun hHeld => ?_)
     clear hK K
     try simp only [Act.put, List.setIfInBounds_toArray, List.set_cons_zero, List.set_cons_succ, Array.replicate]
     refine tH (i := 20) (v := ?_) (y := (Or.inl ⟨by rfl, ?_⟩)) (h := ?_)
     rotate_left
     ·intro w _; go_simp; try with_reducible rfl
     try simp only [Act.put, List.setIfInBounds_toArray, List.set_cons_zero, List.set_cons_succ, Array.replicate]
     refine tH (i := 21) (v := ?_) (y := (Or.inl ⟨by rfl, ?_⟩)) (h := ?_)
     rotate_left
     ·intro w _; go_simp; try with_reducible rfl
     try simp only [Act.put, List.setIfInBounds_toArray, List.set_cons_zero, List.set_cons_succ, Array.replicate]
     refine tH (i := 22) (v := ?_) (y := (Or.inl ⟨by rfl, ?_⟩)) (h := ?_)
     rotate_left
     ·intro w _; go_simp; try with_reducible rfl
     try simp only [Act.put, List.setIfInBounds_toArray, List.set_cons_zero, List.set_cons_succ, Array.replicate]
     refine tH (i := 23) (v := ?_) (y := (Or.inl ⟨by rfl, ?_⟩)) (h := ?_)
     rotate_left
     ·intro w _; go_simp; try with_reducible rfl
     try simp only [Act.put, List.setIfInBounds_toArray, List.set_cons_zero, List.set_cons_succ, Array.replicate]
     refine tH (i := 24) (v := ?_) (y := (Or.inl ⟨by rfl, ?_⟩)) (h := ?_)
     rotate_left
     ·intro w _; go_simp; try with_reducible rfl
     try simp only [Act.put, List.setIfInBounds_toArray, List.set_cons_zero, List.set_cons_succ, Array.replicate]
     refine tH (i := 25) (v := ?_) (y := (Or.inl ⟨by rfl, ?_⟩)) (h := ?_)
     rotate_left
     ·intro w hSS; have c2 := Row.cell hSS 2; simp only [List.getElem?_cons_succ, List.getElem?_cons_zero] at c2; go_simp; try with_reducible rfl
     try simp only [Act.put, List.setIfInBounds_toArray, List.set_cons_zero, List.set_cons_succ, Array.replicate]
     refine tH (i := 27) (v := ?_) (y := (Or.inl ⟨by rfl, ?_⟩)) (h := ?_)
     rotate_left
     ·intro w _; go_simp; try with_reducible rfl
     try simp only [Act.put, List.setIfInBounds_toArray, List.set_cons_zero, List.set_cons_succ, Array.replicate]
     refine tH (i := 28) (v := ?_) (y := (Or.inl ⟨by rfl, ?_⟩)) (h := ?_)
     rotate_left
     ·intro w _; go_simp; try with_reducible rfl
     try simp only [Act.put, List.setIfInBounds_toArray, List.set_cons_zero, List.set_cons_succ, Array.replicate]
     refine tH (i := 29) (v := ?_) (y := (Or.inl ⟨by rfl, ?_⟩)) (h := ?_)
     rotate_left
     ·intro w _; go_simp; try with_reducible rfl
     try simp only [Act.put, List.setIfInBounds_toArray, List.set_cons_zero, List.set_cons_succ, Array.replicate]
     refine tH (i := 30) (v := ?_) (y := (Or.inl ⟨by rfl, ?_⟩)) (h := ?_)
     rotate_left
     ·intro w hSS; have c3 := Row.cell hSS 3; simp only [List.getElem?_cons_succ, List.getElem?_cons_zero] at c3; go_simp; try with_reducible rfl
     try simp only [Act.put, List.setIfInBounds_toArray, List.set_cons_zero, List.set_cons_succ, Array.replicate]
     refine tH (i := 31) (v := ?_) (y := (Or.inl ⟨by rfl, ?_⟩)) (h := ?_)
     rotate_left
     ·intro w _; go_simp; try with_reducible rfl
     try simp only [Act.put, List.setIfInBounds_toArray, List.set_cons_zero, List.set_cons_succ, Array.replicate]
     refine tH (i := 32) (v := ?_) (y := (Or.inl ⟨by rfl, ?_⟩)) (h := ?_)
     rotate_left
     ·intro w _; go_simp; try with_reducible rfl
     try simp only [Act.put, List.setIfInBounds_toArray, List.set_cons_zero, List.set_cons_succ, Array.replicate]
     refine rH [26, 33] (h := ?_)
     refine cH (h := fun K hK => ?_) (hs := ?_)
     ·go_simp; go_at_call 30; with_reducible refine (Next_any qa p n' _ QAC.out).mono ?_; rintro e wn ⟨rfl, rfl⟩; try go_simp
      refine hK.out _ _ (by exact hHeld) (fun hHeld => ?_)
      clear hK K
      try simp only [Act.put, List.setIfInBounds_toArray, List.set_cons_zero, List.set_cons_succ, Array.replicate]
      refine rH [33] (h := ?_)
      refine cH (h := fun K hK => ?_) (hs := ?_)
      ·have v1 := Row.cell (show Row _ qb 83 _ from hqc) 1; simp only [List.getElem?_cons_succ, List.getElem?_cons_zero] at v1; go_simp
       refine hK.out _ _ (by exact hHeld) (fun hHeld => ?_)
       clear hK K
       try simp only [Act.put, List.setIfInBounds_toArray, List.set_cons_zero, List.set_cons_succ, Array.replicate]
       refine tH (i := 34) (v := ?_) (y := (Or.inl ⟨by rfl, ?_⟩)) (h := ?_)
       rotate_left
       ·intro w _; go_simp; try with_reducible rfl
       try simp only [Act.put, List.setIfInBounds_toArray, List.set_cons_zero, List.set_cons_succ, Array.replicate]
       refine tH (i := 35) (v := ?_) (y := (Or.inl ⟨by rfl, ?_⟩)) (h := ?_)
       rotate_left
       ·intro w _; go_simp; try with_reducible rfl
       try simp only [Act.put, List.setIfInBounds_toArray, List.set_cons_zero, List.set_cons_succ, Array.replicate]
       refine tH (i := 36) (v := ?_) (y := (Or.inl ⟨by rfl, ?_⟩)) (h := ?_)
       rotate_left
       ·intro w _; go_simp; try with_reducible rfl
       try simp only [Act.put, List.setIfInBounds_toArray, List.set_cons_zero, List.set_cons_succ, Array.replicate]
       refine tH (i := 37) (v := ?_) (y := (Or.inl ⟨by rfl, ?_⟩)) (h := ?_)
       rotate_left
       ·intro w _; go_simp; try with_reducible rfl
       try simp only [Act.put, List.setIfInBounds_toArray, List.set_cons_zero, List.set_cons_succ, Array.replicate]
       refine wpAnyH_done (by kernel_rfl) ?_ _
       go_wp2_with fail
       go_ret
       exact ⟨rfl, S', R', ⟨_, _, hHeld, DC.out, hdc, .inr ⟨qa, qb, n', rfl, rfl, QAC.out, hqc, by have := HNI.out.2; omega, hBa, hBb⟩⟩, HSIM'.out, HWI'.out.more (by omega) (by omega), HNI.out.1.more (by omega), BC.out⟩
      exact AllReadyH.nil
     refine cH (h := fun K hK => ?_) (hs := ?_)
     ·have v1 := Row.cell (show Row _ qb 83 _ from hqc) 1; simp only [List.getElem?_cons_succ, List.getElem?_cons_zero] at v1; go_simp
      refine hK.out _ _ (by exact hHeld) (fun hHeld => ?_)
      clear hK K
      try simp only [Act.put, List.setIfInBounds_toArray, List.set_cons_zero, List.set_cons_succ, Array.replicate]
      refine rH [26] (h := ?_)
      refine cH (h := fun K hK => ?_) (hs := ?_)
      ·go_simp; go_at_call 30; with_reducible refine (Next_any qa p n' _ QAC.out).mono ?_; rintro e wn ⟨rfl, rfl⟩; try go_simp
       refine hK.out _ _ (by exact hHeld) (fun hHeld => ?_)
       clear hK K
       try simp only [Act.put, List.setIfInBounds_toArray, List.set_cons_zero, List.set_cons_succ, Array.replicate]
       refine tH (i := 34) (v := ?_) (y := (Or.inl ⟨by rfl, ?_⟩)) (h := ?_)
       rotate_left
       ·intro w _; go_simp; try with_reducible rfl
       try simp only [Act.put, List.setIfInBounds_toArray, List.set_cons_zero, List.set_cons_succ, Array.replicate]
       refine tH (i := 35) (v := ?_) (y := (Or.inl ⟨by rfl, ?_⟩)) (h := ?_)
       rotate_left
       ·intro w _; go_simp; try with_reducible rfl
       try simp only [Act.put, List.setIfInBounds_toArray, List.set_cons_zero, List.set_cons_succ, Array.replicate]
       refine tH (i := 36) (v := ?_) (y := (Or.inl ⟨by rfl, ?_⟩)) (h := ?_)
       rotate_left
       ·intro w _; go_simp; try with_reducible rfl
       try simp only [Act.put, List.setIfInBounds_toArray, List.set_cons_zero, List.set_cons_succ, Array.replicate]
       refine tH (i := 37) (v := ?_) (y := (Or.inl ⟨by rfl, ?_⟩)) (h := ?_)
       rotate_left
       ·intro w _; go_simp; try with_reducible rfl
       try simp only [Act.put, List.setIfInBounds_toArray, List.set_cons_zero, List.set_cons_succ, Array.replicate]
       refine wpAnyH_done (by kernel_rfl) ?_ _
       go_wp2_with fail
       go_ret
       exact ⟨rfl, S', R', ⟨_, _, hHeld, DC.out, hdc, .inr ⟨qa, qb, n', rfl, rfl, QAC.out, hqc, by have := HNI.out.2; omega, hBa, hBb⟩⟩, HSIM'.out, HWI'.out.more (by omega) (by omega), HNI.out.1.more (by omega), BC.out⟩
      exact AllReadyH.nil
     exact AllReadyH.nil
    exact AllReadyH.nil
   exact AllReadyH.nil
  exact AllReadyH.nil
 exact AllReadyH.nil
theorem does1y (qa qb n : Nat) (N : Int) (xo : Option Addr) (co : Nat) (l : List UInt8) (h p q : Nat) (S : PD) (R : RD) (T : Nat) (x : Int) (X B0 : Nat) (w : World) (hrow : Row w h 50 [.pointer (some ⟨p, 0, none⟩), .pointer (some ⟨q, 0, none⟩), .pointer (some ⟨qa, 0, none⟩), .pointer (some ⟨qb, 0, none⟩)]) (hS : Dsk w p S) (hR : Rdk w q R) (hqa : WalR w qa p n) (hqb : RWalR w qb q n) (hnX : n ≤ X) (hBa : B0 ≤ qa) (hBb : B0 ≤ qb) (hsim : Sim S R) (hwi : Wi R T x) (hnx : Nxi R X) (hpq : p ≠ q) (hhp : h ≠ p) (hhq : h ≠ q) (hT : T ≤ 30000000) (hx0 : 0 ≤ x) (hx : x ≤ 1000000000) (hX : X ≤ 100000000000000) (hB : B0 ≤ h ∧ B0 ≤ p ∧ B0 ≤ q) (hB0 : B0 ≤ w.heap.size) (hsh : ∀ w', Below B0 w w' → Sh w' (.slice xo l.length co) l) (hlen : l.length ≤ 140737488355328) :
  Calls Try.prog 15 #[.pointer (some ⟨h, 0, none⟩), .agg #[.int .i64 1, .int .i64 N, .slice xo l.length co]] w fun e w' => e = .returned (.bool true) ∧ Behind w h p q B0 T x X w' := by
 have hm : S.left ≤ 9223372036854775807 := by
  have h1 := hwi.left
  rcases hsim.left with ⟨-, h2, -⟩ | ⟨-, h2⟩ <;> omega
 have h0l : S.n0.length ≤ 50000000 := by rw [hsim.n0]; have := hwi.bd.a0; omega
 have h1l : S.n1.length ≤ 50000000 := by rw [hsim.n1]; have := hwi.bd.a1; omega
 have h0f : S.f0.length ≤ 50000000 := by rw [hsim.f0]; have := hwi.bd.f0; omega
 have h1f : S.f1.length ≤ 50000000 := by rw [hsim.f1]; have := hwi.bd.f1; omega
 have hlim : -1000000000000 ≤ S.lim ∧ S.lim ≤ 1000000000000 := by rw [hsim.lim]; have := hwi.lim; omega
 have HH := Lib.hid hrow
 have HS := Lib.hid hS
 have HR := Lib.hid hR
 have HSH := Lib.hid hsh
 have HWI := Lib.hid hwi
 have HNX := Lib.hid hnx
 have HSIM := Lib.hid hsim
 have hwd := hsim.wsnap n (l.take 3000)
 have hni := hnx.rsnap n (l.take 3000) hnX (by omega) (by rw [List.length_take]; omega)
 have hwi' := hwi.rsnap n (l.take 3000)
 rcases hwa : S.wsnap n (l.take 3000) with ⟨S', e'⟩
 rcases hra : R.rsnap n (l.take 3000) with ⟨R', e2⟩
 rw [hwa, hra] at hwd
 rw [hra] at hni hwi'
 obtain ⟨he, hsim'⟩ := hwd
 dsimp only at he hsim' hni hwi'
 subst he
 have HWA := Lib.hid hwa
 have HRA := Lib.hid hra
 have HSIM' := Lib.hid hsim'
 have HNI := Lib.hid hni
 have HWI' := Lib.hid hwi'
 clear hwa hra hsim' hni hwi'
 have HLOG : Hid (Logs w p q (.pointer (some ⟨qa, 0, none⟩)) (.pointer (some ⟨qb, 0, none⟩)) X B0) := Lib.hid (.inr ⟨qa, qb, n, rfl, rfl, hqa, hqb, hnX, hBa, hBb⟩)
 have QA0 := Lib.hid hqa
 have QB0 := Lib.hid hqb
 clear hrow hS hR hsh hwi hnx hsim hqa hqb
 have hhs := HH.out.lt
 have hps := HS.out.lt
 have hqs := HR.out.lt
 have hba := balloc (Below.refl w.heap.size w) (.cells #[.int .i64 1, .int .i64 N, .slice xo l.length co] 38)
 have HBA := Lib.hid hba
 clear hba
 go_enter Try.func15, Try.ntmps15
 go_upto_region 6 with (go_at_call 9; refine (bytes_act 1 N xo co l _ (HSH.out _ (HBA.out.mono hB0)) hlen).mono ?_; rintro e w1 ⟨rfl, hb1⟩; have hb01 := bstep HBA.out hb1; have H1 := Lib.hid (HH.out.keep hb01); have D1 := Lib.hid (HS.out.keepB hb01); have R1 := Lib.hid (HR.out.keepB hb01); have L1 := Lib.hid (HLOG.out.keep hb01); have QA1 := Lib.hid (WalR.keep QA0.out hb01); have QB1 := Lib.hid (RWalR.keep QB0.out hb01); have A1 := Lib.hid ((Row.new w 38 [.int .i64 1, .int .i64 N, .slice xo l.length co]).keep hb1); have B1 := Lib.hid (hb01.mono hB0); have hs1 := hb01.size; have SH1 := Lib.hid (fun w' hb => (HSH.out w' hb).taken); have hbl : (l.take 3000).length ≤ 3000 := (by rw [List.length_take]; omega); generalize l.take 3000 = b at *; have a0 := Row.cell (A1.out) 0; have a1 := Row.cell (A1.out) 1; have a2 := Row.cell (A1.out) 2; simp only [List.getElem?_cons_succ, List.getElem?_cons_zero] at a0 a1 a2; have c0 := Row.cell (H1.out) 0; have c1 := Row.cell (H1.out) 1; have c2 := Row.cell (H1.out) 2; have c3 := Row.cell (H1.out) 3; simp only [List.getElem?_cons_succ, List.getElem?_cons_zero] at c0 c1 c2 c3; clear hb1 hb01 HH HS HR HLOG QA0 QB0 HBA HSH)
 have bd := (Below.refl w1.heap.size w1).drew
 have HW := Lib.hid (H1.out.keep bd)
 have DW := Lib.hid (D1.out.keepB bd)
 have RW := Lib.hid (R1.out.keepB bd)
 have LW := Lib.hid (L1.out.keep bd)
 have QAW := Lib.hid (QA1.out.keep bd)
 have QBW := Lib.hid (QB1.out.keep bd)
 have AW := Lib.hid (A1.out.keep bd)
 have BW := Lib.hid (B1.out.trans (bd.mono (by omega)))
 have hsW : w.heap.size ≤ (World.drew w1).heap.size := by have := bd.size; omega
 clear a0 a1 a2 c0 c1 c2 c3 H1 D1 R1 L1 QA1 QB1 A1 B1 bd hs1
 have hap := Row.ne (show Row _ qa 71 _ from QAW.out) HW.out (by decide)
 have hbp := Row.ne (show Row _ qb 83 _ from QBW.out) HW.out (by decide)
 have hab := Row.ne (show Row _ qa 71 _ from QAW.out) (show Row _ qb 83 _ from QBW.out) (by decide)
 have hqaq := Row.ne (show Row _ qa 71 _ from QAW.out) RW.out.rowC.choose_spec.1 (by decide)
 have hqap := Row.ne (show Row _ qa 71 _ from QAW.out) DW.out.rowC.choose_spec (by decide)
 have hqbp := Row.ne (show Row _ qb 83 _ from QBW.out) DW.out.rowC.choose_spec (by decide)
 have hqbq := Row.ne (show Row _ qb 83 _ from QBW.out) RW.out.rowC.choose_spec.1 (by decide)
 refine wp_region_held_drew (S := fun w' => Row w' h 50 [.pointer (some ⟨p, 0, none⟩), .pointer (some ⟨q, 0, none⟩), .pointer (some ⟨qa, 0, none⟩), .pointer (some ⟨qb, 0, none⟩)]) (by kernel_rfl) (by exact HW.out) (fun hHeld => ?_)
 generalize World.drew w1 = W at *
 refine tH (i := 0) (v := ?_) (y := (Or.inl ⟨by rfl, ?_⟩)) (h := ?_)
 rotate_left
 ·intro w _; go_simp; try with_reducible rfl
 try simp only [Act.put, List.setIfInBounds_toArray, List.set_cons_zero, List.set_cons_succ, Array.replicate]
 refine tH (i := 1) (v := ?_) (y := (Or.inl ⟨by rfl, ?_⟩)) (h := ?_)
 rotate_left
 ·intro w _; go_simp; try with_reducible rfl
 try simp only [Act.put, List.setIfInBounds_toArray, List.set_cons_zero, List.set_cons_succ, Array.replicate]
 refine tH (i := 2) (v := ?_) (y := (Or.inl ⟨by rfl, ?_⟩)) (h := ?_)
 rotate_left
 ·intro w _; go_simp; try with_reducible rfl
 try simp only [Act.put, List.setIfInBounds_toArray, List.set_cons_zero, List.set_cons_succ, Array.replicate]
 refine tH (i := 3) (v := ?_) (y := (Or.inl ⟨by rfl, ?_⟩)) (h := ?_)
 rotate_left
 ·intro w hSS; have c2 := Row.cell hSS 2; simp only [List.getElem?_cons_succ, List.getElem?_cons_zero] at c2; go_simp; try with_reducible rfl
 try simp only [Act.put, List.setIfInBounds_toArray, List.set_cons_zero, List.set_cons_succ, Array.replicate]
 refine tH (i := 4) (v := ?_) (y := (Or.inl ⟨by rfl, ?_⟩)) (h := ?_)
 rotate_left
 ·intro w _; go_simp; try with_reducible rfl
 try simp only [Act.put, List.setIfInBounds_toArray, List.set_cons_zero, List.set_cons_succ, Array.replicate]
 refine tH (i := 5) (v := ?_) (y := (Or.inl ⟨by rfl, ?_⟩)) (h := ?_)
 rotate_left
 ·intro w _; go_simp; try with_reducible rfl
 try simp only [Act.put, List.setIfInBounds_toArray, List.set_cons_zero, List.set_cons_succ, Array.replicate]
 refine tH (i := 6) (v := ?_) (y := (Or.inl ⟨by rfl, ?_⟩)) (h := ?_)
 rotate_left
 ·intro w _; go_simp; try with_reducible rfl
 try simp only [Act.put, List.setIfInBounds_toArray, List.set_cons_zero, List.set_cons_succ, Array.replicate]
 refine tH (i := 7) (v := ?_) (y := (Or.inl ⟨by rfl, ?_⟩)) (h := ?_)
 rotate_left
 ·intro w _; go_simp; try with_reducible rfl
 try simp only [Act.put, List.setIfInBounds_toArray, List.set_cons_zero, List.set_cons_succ, Array.replicate]
 refine tH (i := 8) (v := ?_) (y := (Or.inl ⟨by rfl, ?_⟩)) (h := ?_)
 rotate_left
 ·intro w _; go_simp; try with_reducible rfl
 try simp only [Act.put, List.setIfInBounds_toArray, List.set_cons_zero, List.set_cons_succ, Array.replicate]
 refine tH (i := 9) (v := ?_) (y := (Or.inl ⟨by rfl, ?_⟩)) (h := ?_)
 rotate_left
 ·intro w hSS; have c2 := Row.cell hSS 2; simp only [List.getElem?_cons_succ, List.getElem?_cons_zero] at c2; go_simp; try with_reducible rfl
 try simp only [Act.put, List.setIfInBounds_toArray, List.set_cons_zero, List.set_cons_succ, Array.replicate]
 refine tH (i := 11) (v := ?_) (y := (Or.inl ⟨by rfl, ?_⟩)) (h := ?_)
 rotate_left
 ·intro w _; go_simp; try with_reducible rfl
 try simp only [Act.put, List.setIfInBounds_toArray, List.set_cons_zero, List.set_cons_succ, Array.replicate]
 refine tH (i := 14) (v := ?_) (y := (Or.inl ⟨by rfl, ?_⟩)) (h := ?_)
 rotate_left
 ·intro w _; go_simp; try with_reducible rfl
 try simp only [Act.put, List.setIfInBounds_toArray, List.set_cons_zero, List.set_cons_succ, Array.replicate]
 refine tH (i := 15) (v := ?_) (y := (Or.inl ⟨by rfl, ?_⟩)) (h := ?_)
 rotate_left
 ·intro w _; go_simp; try with_reducible rfl
 try simp only [Act.put, List.setIfInBounds_toArray, List.set_cons_zero, List.set_cons_succ, Array.replicate]
 refine tH (i := 16) (v := ?_) (y := (Or.inl ⟨by rfl, ?_⟩)) (h := ?_)
 rotate_left
 ·intro w _; go_simp; try with_reducible rfl
 try simp only [Act.put, List.setIfInBounds_toArray, List.set_cons_zero, List.set_cons_succ, Array.replicate]
 refine tH (i := 17) (v := ?_) (y := (Or.inl ⟨by rfl, ?_⟩)) (h := ?_)
 rotate_left
 ·intro w hSS; have c3 := Row.cell hSS 3; simp only [List.getElem?_cons_succ, List.getElem?_cons_zero] at c3; go_simp; try with_reducible rfl
 try simp only [Act.put, List.setIfInBounds_toArray, List.set_cons_zero, List.set_cons_succ, Array.replicate]
 refine tH (i := 18) (v := ?_) (y := (Or.inl ⟨by rfl, ?_⟩)) (h := ?_)
 rotate_left
 ·intro w _; go_simp; try with_reducible rfl
 try simp only [Act.put, List.setIfInBounds_toArray, List.set_cons_zero, List.set_cons_succ, Array.replicate]
 refine rH [10] (h := ?_)
 refine cH (h := fun K hK => ?_) (hs := ?_)
 ·go_simp
  refine hK.out _ _ (by exact Row.alloc hHeld _) (fun hHeld => ?_)
  clear hK K
  try simp only [Act.put, List.setIfInBounds_toArray, List.set_cons_zero, List.set_cons_succ, Array.replicate]
  refine rH [12] (h := ?_)
  refine cH (h := fun K hK => ?_) (hs := ?_)
  ·go_loud (have hbw := balloc (Below.refl W.heap.size W) (.cells #[] 5); have HSH := Lib.hid (SH1.out _ (BW.out.trans (hbw.mono (by omega)))); refine step_app_own Try.underlying27 info_byte (by with_unfolding_all rfl) (.tmp 61) (.tmp 62) rfl rfl (Row.new W 5 []) rfl HSH.out (by omega) ?_; intro va wa hoa hba; have hbwa := bstep hbw hba; have DA := Lib.hid (DW.out.keepB hbwa); have RA := Lib.hid (RW.out.keepB hbwa); have QAA := Lib.hid (QAW.out.keep hbwa); have QBA := Lib.hid (QBW.out.keep hbwa); have BA := Lib.hid (BW.out.trans (hbwa.mono (by omega))); have hsa := hbwa.size)
   refine hK.out _ _ (by exact Row.keep hHeld hba) (fun hHeld => ?_)
   clear hK K
   try simp only [Act.put, List.setIfInBounds_toArray, List.set_cons_zero, List.set_cons_succ, Array.replicate]
   refine rH [13] (h := ?_)
   refine cH (h := fun K hK => ?_) (hs := ?_)
   ·go_simp; go_at_call 19; go_loud (refine (Snap_of qa p n _ b S S' e' HWA.out _ QAA.out DA.out (by simpa using hoa.sh) (by omega) (by omega) hm (by omega) hlim).mono ?_; rintro e wb ⟨rfl, hdb, hub⟩; have RB := Lib.hid (RA.out.upd DA.out hpq.symm hub); have QAB := Lib.hid (show WalR wb qa p n from hub.row QAA.out hqap); have QBB := Lib.hid (show RWalR wb qb q n from hub.row QBA.out hqbp); have BB := Lib.hid (BA.out.trans (hub.below (by omega) (by omega))); have hsb := hub.sizeLe; try go_simp)
    refine hK.out _ _ (by exact hub.row hHeld hhp) (fun hHeld => ?_)
    clear hK K
    try simp only [Act.put, List.setIfInBounds_toArray, List.set_cons_zero, List.set_cons_succ, Array.replicate]
    refine rH [19] (h := ?_)
    refine cH (h := fun K hK => ?_) (hs := ?_)
    ·go_simp; go_at_call 34; go_loud (refine (rSnap_of qb q n _ b R R' e' HRA.out T x _ QBB.out RB.out (SH1.out _ BB.out) (by omega) (by omega) HWI.out (by omega) (by omega)).mono ?_; rintro e wc ⟨rfl, hdc, huc⟩; have DC := Lib.hid (hdb.upd RB.out hpq huc); have QAC := Lib.hid (show WalR wc qa p n from huc.row QAB.out hqaq); have QBC := Lib.hid (show RWalR wc qb q n from huc.row QBB.out hqbq); have BC := Lib.hid (BB.out.trans (huc.below (by omega) (by omega))); try go_simp)
     refine hK.out _ _ (by exact huc.row hHeld hhq) (fun hHeld => ?_)
     clear hK K
     try simp only [Act.put, List.setIfInBounds_toArray, List.set_cons_zero, List.set_cons_succ, Array.replicate]
     refine tH (i := 20) (v := ?_) (y := (Or.inl ⟨by rfl, ?_⟩)) (h := ?_)
     rotate_left
     ·intro w _; go_simp; try with_reducible rfl
     try simp only [Act.put, List.setIfInBounds_toArray, List.set_cons_zero, List.set_cons_succ, Array.replicate]
     refine tH (i := 21) (v := ?_) (y := (Or.inl ⟨by rfl, ?_⟩)) (h := ?_)
     rotate_left
     ·intro w _; go_simp; try with_reducible rfl
     try simp only [Act.put, List.setIfInBounds_toArray, List.set_cons_zero, List.set_cons_succ, Array.replicate]
     refine tH (i := 22) (v := ?_) (y := (Or.inl ⟨by rfl, ?_⟩)) (h := ?_)
     rotate_left
     ·intro w _; go_simp; try with_reducible rfl
     try simp only [Act.put, List.setIfInBounds_toArray, List.set_cons_zero, List.set_cons_succ, Array.replicate]
     refine wpAnyH_done (by kernel_rfl) ?_ _
     go_wp2_with fail
     go_ret
     exact ⟨rfl, S', R', ⟨_, _, hHeld, DC.out, hdc, .inr ⟨qa, qb, n, rfl, rfl, QAC.out, QBC.out, by omega, hBa, hBb⟩⟩, HSIM'.out, HWI'.out.more (by omega) (by omega), HNI.out.more (by omega), BC.out⟩
    exact AllReadyH.nil
   exact AllReadyH.nil
  exact AllReadyH.nil
 exact AllReadyH.nil
theorem does2 (wv vv : Value) (N : Int) (xo : Option Addr) (co : Nat) (l : List UInt8) (h p q : Nat) (S : PD) (R : RD) (T : Nat) (x : Int) (X B0 : Nat) (w : World) (hrow : Row w h 50 [.pointer (some ⟨p, 0, none⟩), .pointer (some ⟨q, 0, none⟩), wv, vv]) (hS : Dsk w p S) (hR : Rdk w q R) (hlog : Logs w p q wv vv X B0) (hsim : Sim S R) (hwi : Wi R T x) (hnx : Nxi R X) (hpq : p ≠ q) (hhp : h ≠ p) (hhq : h ≠ q) (hT : T ≤ 30000000) (hx0 : 0 ≤ x) (hx : x ≤ 1000000000) (hX : X ≤ 100000000000000) (hB : B0 ≤ h ∧ B0 ≤ p ∧ B0 ≤ q) (hB0 : B0 ≤ w.heap.size) (hsh : ∀ w', Below B0 w w' → Sh w' (.slice xo l.length co) l) (hlen : l.length ≤ 140737488355328) :
  Calls Try.prog 15 #[.pointer (some ⟨h, 0, none⟩), .agg #[.int .i64 2, .int .i64 N, .slice xo l.length co]] w fun e w' => e = .returned (.bool true) ∧ Behind w h p q B0 T x X w' := by
 have hm : S.left ≤ 9223372036854775807 := by
  have h1 := hwi.left
  rcases hsim.left with ⟨-, h2, -⟩ | ⟨-, h2⟩ <;> omega
 have h0l : S.n0.length ≤ 50000000 := by rw [hsim.n0]; have := hwi.bd.a0; omega
 have h1l : S.n1.length ≤ 50000000 := by rw [hsim.n1]; have := hwi.bd.a1; omega
 have h0f : S.f0.length ≤ 50000000 := by rw [hsim.f0]; have := hwi.bd.f0; omega
 have h1f : S.f1.length ≤ 50000000 := by rw [hsim.f1]; have := hwi.bd.f1; omega
 have hlim : -1000000000000 ≤ S.lim ∧ S.lim ≤ 1000000000000 := by rw [hsim.lim]; have := hwi.lim; omega
 have HH := Lib.hid hrow
 have HS := Lib.hid hS
 have HR := Lib.hid hR
 have HSH := Lib.hid hsh
 have HWI := Lib.hid hwi
 have HNX := Lib.hid hnx
 have HSIM := Lib.hid hsim
 have HLOG := Lib.hid hlog
 clear hrow hS hR hsh hwi hnx hsim hlog
 have hhs := HH.out.lt
 have hps := HS.out.lt
 have hqs := HR.out.lt
 have hba := balloc (Below.refl w.heap.size w) (.cells #[.int .i64 2, .int .i64 N, .slice xo l.length co] 38)
 have HBA := Lib.hid hba
 clear hba
 go_enter Try.func15, Try.ntmps15
 go_wp2_with (first
  | (go_at_call 14; go_loud (obtain ⟨wq, vq, rfl, rfl⟩ := L1.out.ptr; refine (opens_any h p q S R T x B0 wq vq _ H1.out D1.out R1.out HSIM.out hpq hhp hhq HWI.out (by omega) (by omega) hB (by omega)).mono ?_; rintro e w2 ⟨rfl, wv', vv', hr2, hd2, hR2, hl2, hb2⟩))
  | (go_at_call 9; refine (bytes_act 2 N xo co l _ (HSH.out _ (HBA.out.mono hB0)) hlen).mono ?_; rintro e w1 ⟨rfl, hb1⟩; have hb01 := bstep HBA.out hb1; have H1 := Lib.hid (HH.out.keep hb01); have D1 := Lib.hid (HS.out.keepB hb01); have R1 := Lib.hid (HR.out.keepB hb01); have L1 := Lib.hid (HLOG.out.keep hb01); have A1 := Lib.hid ((Row.new w 38 [.int .i64 2, .int .i64 N, .slice xo l.length co]).keep hb1); have B1 := Lib.hid (hb01.mono hB0); have hs1 := hb01.size; have SH1 := Lib.hid (fun w' hb => (HSH.out w' hb).taken); have hbl : (l.take 3000).length ≤ 3000 := (by rw [List.length_take]; omega); generalize l.take 3000 = b at *; have a0 := Row.cell (A1.out) 0; have a1 := Row.cell (A1.out) 1; have a2 := Row.cell (A1.out) 2; simp only [List.getElem?_cons_succ, List.getElem?_cons_zero] at a0 a1 a2; have c0 := Row.cell (H1.out) 0; have c1 := Row.cell (H1.out) 1; have c2 := Row.cell (H1.out) 2; have c3 := Row.cell (H1.out) 3; simp only [List.getElem?_cons_succ, List.getElem?_cons_zero] at c0 c1 c2 c3; clear hb1 hb01 HH HS HR HLOG HBA HSH))
 go_ret
 have hk := HNX.out.kept HWI.out.bd.a0
 rw [← HSIM.out.n0, ← HSIM.out.n1] at hk
 exact ⟨rfl, _, _, ⟨_, _, hr2, hd2, hR2, hl2.more (by omega)⟩, (HSIM.out.wopen).2, HWI.out.ropen.more (by omega) (by omega), HNX.out.ropen.more (by omega), B1.out.trans hb2⟩
theorem does3 (wv vv : Value) (N : Int) (xo : Option Addr) (co : Nat) (l : List UInt8) (h p q : Nat) (S : PD) (R : RD) (T : Nat) (x : Int) (X B0 : Nat) (w : World) (hrow : Row w h 50 [.pointer (some ⟨p, 0, none⟩), .pointer (some ⟨q, 0, none⟩), wv, vv]) (hS : Dsk w p S) (hR : Rdk w q R) (hlog : Logs w p q wv vv X B0) (hsim : Sim S R) (hwi : Wi R T x) (hnx : Nxi R X) (hpq : p ≠ q) (hhp : h ≠ p) (hhq : h ≠ q) (hT : T ≤ 30000000) (hx0 : 0 ≤ x) (hx : x ≤ 1000000000) (hX : X ≤ 100000000000000) (hB : B0 ≤ h ∧ B0 ≤ p ∧ B0 ≤ q) (hB0 : B0 ≤ w.heap.size) (hsh : ∀ w', Below B0 w w' → Sh w' (.slice xo l.length co) l) (hN : N ≤ 9223372036854775807) (hlen : l.length ≤ 140737488355328) :
  Calls Try.prog 15 #[.pointer (some ⟨h, 0, none⟩), .agg #[.int .i64 3, .int .i64 N, .slice xo l.length co]] w fun e w' => e = .returned (.bool true) ∧ Behind w h p q B0 T x X w' := by
 have hm : S.left ≤ 9223372036854775807 := by
  have h1 := hwi.left
  rcases hsim.left with ⟨-, h2, -⟩ | ⟨-, h2⟩ <;> omega
 have h0l : S.n0.length ≤ 50000000 := by rw [hsim.n0]; have := hwi.bd.a0; omega
 have h1l : S.n1.length ≤ 50000000 := by rw [hsim.n1]; have := hwi.bd.a1; omega
 have h0f : S.f0.length ≤ 50000000 := by rw [hsim.f0]; have := hwi.bd.f0; omega
 have h1f : S.f1.length ≤ 50000000 := by rw [hsim.f1]; have := hwi.bd.f1; omega
 have hlim : -1000000000000 ≤ S.lim ∧ S.lim ≤ 1000000000000 := by rw [hsim.lim]; have := hwi.lim; omega
 have HH := Lib.hid hrow
 have HS := Lib.hid hS
 have HR := Lib.hid hR
 have HSH := Lib.hid hsh
 have HWI := Lib.hid hwi
 have HNX := Lib.hid hnx
 have HSIM := Lib.hid hsim
 have HLOG := Lib.hid hlog
 clear hrow hS hR hsh hwi hnx hsim hlog
 have hhs := HH.out.lt
 have hps := HS.out.lt
 have hqs := HR.out.lt
 have hba := balloc (Below.refl w.heap.size w) (.cells #[.int .i64 3, .int .i64 N, .slice xo l.length co] 38)
 have HBA := Lib.hid hba
 clear hba
 go_enter Try.func15, Try.ntmps15
 go_upto_region 10 with (go_at_call 9; refine (bytes_act 3 N xo co l _ (HSH.out _ (HBA.out.mono hB0)) hlen).mono ?_; rintro e w1 ⟨rfl, hb1⟩; have hb01 := bstep HBA.out hb1; have H1 := Lib.hid (HH.out.keep hb01); have D1 := Lib.hid (HS.out.keepB hb01); have R1 := Lib.hid (HR.out.keepB hb01); have L1 := Lib.hid (HLOG.out.keep hb01); have A1 := Lib.hid ((Row.new w 38 [.int .i64 3, .int .i64 N, .slice xo l.length co]).keep hb1); have B1 := Lib.hid (hb01.mono hB0); have hs1 := hb01.size; have SH1 := Lib.hid (fun w' hb => (HSH.out w' hb).taken); have hbl : (l.take 3000).length ≤ 3000 := (by rw [List.length_take]; omega); generalize l.take 3000 = b at *; have a0 := Row.cell (A1.out) 0; have a1 := Row.cell (A1.out) 1; have a2 := Row.cell (A1.out) 2; simp only [List.getElem?_cons_succ, List.getElem?_cons_zero] at a0 a1 a2; have c0 := Row.cell (H1.out) 0; have c1 := Row.cell (H1.out) 1; have c2 := Row.cell (H1.out) 2; have c3 := Row.cell (H1.out) 3; simp only [List.getElem?_cons_succ, List.getElem?_cons_zero] at c0 c1 c2 c3; clear hb1 hb01 HH HS HR HLOG HBA HSH)
 have bd := (Below.refl w1.heap.size w1).drew
 have HW := Lib.hid (H1.out.keep bd)
 have DW := Lib.hid (D1.out.keepB bd)
 have RW := Lib.hid (R1.out.keepB bd)
 have LW := Lib.hid (L1.out.keep bd)
 have AW := Lib.hid (A1.out.keep bd)
 have BW := Lib.hid (B1.out.trans (bd.mono (by omega)))
 have hsW : w.heap.size ≤ (World.drew w1).heap.size := by have := bd.size; omega
 clear a0 a1 a2 c0 c1 c2 c3 H1 D1 R1 L1 A1 B1 bd hs1
 refine wp_region_held_drew (S := fun w' => Row w' h 50 [.pointer (some ⟨p, 0, none⟩), .pointer (some ⟨q, 0, none⟩), wv, vv] ∧ Row w' w.heap.size 38 [.int .i64 3, .int .i64 N, .slice xo l.length co]) (by kernel_rfl) (by exact ⟨HW.out, AW.out⟩) (fun hHeld => ?_)
 generalize World.drew w1 = W at *
 refine tH (i := 0) (v := ?_) (y := (Or.inl ⟨by rfl, ?_⟩)) (h := ?_)
 rotate_left
 ·intro w _; go_simp; try with_reducible rfl
 try simp only [Act.put, List.setIfInBounds_toArray, List.set_cons_zero, List.set_cons_succ, Array.replicate]
 refine tH (i := 1) (v := ?_) (y := (Or.inl ⟨by rfl, ?_⟩)) (h := ?_)
 rotate_left
 ·intro w _; go_simp; try with_reducible rfl
 try simp only [Act.put, List.setIfInBounds_toArray, List.set_cons_zero, List.set_cons_succ, Array.replicate]
 refine tH (i := 2) (v := ?_) (y := (Or.inl ⟨by rfl, ?_⟩)) (h := ?_)
 rotate_left
 ·intro w _; go_simp; try with_reducible rfl
 try simp only [Act.put, List.setIfInBounds_toArray, List.set_cons_zero, List.set_cons_succ, Array.replicate]
 refine tH (i := 3) (v := ?_) (y := (Or.inl ⟨by rfl, ?_⟩)) (h := ?_)
 rotate_left
 ·intro w hSS; have c0 := Row.cell hSS.1 0; simp only [List.getElem?_cons_succ, List.getElem?_cons_zero] at c0; go_simp; try with_reducible rfl
 try simp only [Act.put, List.setIfInBounds_toArray, List.set_cons_zero, List.set_cons_succ, Array.replicate]
 refine tH (i := 4) (v := ?_) (y := (Or.inl ⟨by rfl, ?_⟩)) (h := ?_)
 rotate_left
 ·intro w _; go_simp; try with_reducible rfl
 try simp only [Act.put, List.setIfInBounds_toArray, List.set_cons_zero, List.set_cons_succ, Array.replicate]
 refine tH (i := 5) (v := ?_) (y := (Or.inl ⟨by rfl, ?_⟩)) (h := ?_)
 rotate_left
 ·intro w hSS; have b1 := Row.cell hSS.2 1; simp only [List.getElem?_cons_succ, List.getElem?_cons_zero] at b1; go_simp; try with_reducible rfl
 try simp only [Act.put, List.setIfInBounds_toArray, List.set_cons_zero, List.set_cons_succ, Array.replicate]
 refine rH [6] (h := ?_)
 refine cH (h := fun K hK => ?_) (hs := ?_)
 ·go_simp; go_at_call 18; go_loud (refine (Arm_dsk p N S _ DW.out).mono ?_; rintro e wa ⟨rfl, hda, hua⟩; have RA := Lib.hid (RW.out.upd DW.out hpq.symm hua); have LA := Lib.hid (LW.out.updP DW.out hua); have BA := Lib.hid (BW.out.trans (hua.below hB.2.1 (by omega))); have hsa := hua.sizeLe; try go_simp)
  refine hK.out _ _ (by exact ⟨hua.row hHeld.1 hhp, hua.row hHeld.2 (by omega)⟩) (fun hHeld => ?_)
  clear hK K
  try simp only [Act.put, List.setIfInBounds_toArray, List.set_cons_zero, List.set_cons_succ, Array.replicate]
  refine wpAnyH_done (by kernel_rfl) ?_ _
  go_upto_region 11 with fail
  have bd := (Below.refl wa.heap.size wa).drew
  have HX := Lib.hid (Row.keep hHeld.1 bd)
  have AX := Lib.hid (Row.keep hHeld.2 bd)
  have DX := Lib.hid (Dsk.keepB hda bd)
  have RX := Lib.hid (RA.out.keepB bd)
  have LX := Lib.hid (LA.out.keep bd)
  have BX := Lib.hid (BA.out.trans (bd.mono (by omega)))
  have hsX : w.heap.size ≤ (World.drew wa).heap.size := by have := bd.size; omega
  refine wp_region_held_drew (S := fun w' => Row w' h 50 [.pointer (some ⟨p, 0, none⟩), .pointer (some ⟨q, 0, none⟩), wv, vv] ∧ Row w' w.heap.size 38 [.int .i64 3, .int .i64 N, .slice xo l.length co]) (by kernel_rfl) (by exact ⟨HX.out, AX.out⟩) (fun hHeld => ?_)
  generalize World.drew wa = W2 at *
  refine tH (i := 0) (v := ?_) (y := (Or.inl ⟨by rfl, ?_⟩)) (h := ?_)
  rotate_left
  ·intro w _; go_simp; try with_reducible rfl
  try simp only [Act.put, List.setIfInBounds_toArray, List.set_cons_zero, List.set_cons_succ, Array.replicate]
  refine tH (i := 1) (v := ?_) (y := (Or.inl ⟨by rfl, ?_⟩)) (h := ?_)
  rotate_left
  ·intro w _; go_simp; try with_reducible rfl
  try simp only [Act.put, List.setIfInBounds_toArray, List.set_cons_zero, List.set_cons_succ, Array.replicate]
  refine tH (i := 2) (v := ?_) (y := (Or.inl ⟨by rfl, ?_⟩)) (h := ?_)
  rotate_left
  ·intro w _; go_simp; try with_reducible rfl
  try simp only [Act.put, List.setIfInBounds_toArray, List.set_cons_zero, List.set_cons_succ, Array.replicate]
  refine tH (i := 3) (v := ?_) (y := (Or.inl ⟨by rfl, ?_⟩)) (h := ?_)
  rotate_left
  ·intro w hSS; have c1 := Row.cell hSS.1 1; simp only [List.getElem?_cons_succ, List.getElem?_cons_zero] at c1; go_simp; try with_reducible rfl
  try simp only [Act.put, List.setIfInBounds_toArray, List.set_cons_zero, List.set_cons_succ, Array.replicate]
  refine tH (i := 4) (v := ?_) (y := (Or.inl ⟨by rfl, ?_⟩)) (h := ?_)
  rotate_left
  ·intro w _; go_simp; try with_reducible rfl
  try simp only [Act.put, List.setIfInBounds_toArray, List.set_cons_zero, List.set_cons_succ, Array.replicate]
  refine tH (i := 5) (v := ?_) (y := (Or.inl ⟨by rfl, ?_⟩)) (h := ?_)
  rotate_left
  ·intro w hSS; have b1 := Row.cell hSS.2 1; simp only [List.getElem?_cons_succ, List.getElem?_cons_zero] at b1; go_simp; try with_reducible rfl
  try simp only [Act.put, List.setIfInBounds_toArray, List.set_cons_zero, List.set_cons_succ, Array.replicate]
  refine rH [6] (h := ?_)
  refine cH (h := fun K hK => ?_) (hs := ?_)
  ·go_simp; go_at_call 35; go_loud (refine (refArm_any q N R _ RX.out).mono ?_; rintro e wc ⟨rfl, hdc, huc⟩; have DC := Lib.hid (DX.out.upd RX.out hpq huc); have LC := Lib.hid (LX.out.updQ RX.out huc); have BC := Lib.hid (BX.out.trans (huc.below hB.2.2 (by omega))); try go_simp)
   refine hK.out _ _ (by exact ⟨huc.row hHeld.1 hhq, huc.row hHeld.2 (by omega)⟩) (fun hHeld => ?_)
   clear hK K
   try simp only [Act.put, List.setIfInBounds_toArray, List.set_cons_zero, List.set_cons_succ, Array.replicate]
   refine wpAnyH_done (by kernel_rfl) ?_ _
   go_wp2_with fail
   go_ret
   exact ⟨rfl, _, _, ⟨_, _, hHeld.1, DC.out, hdc, LC.out.more (by omega)⟩, HSIM.out.arm N, (HWI.out.arm hx0 N hN).more (by omega) (by omega), (HNX.out.arm N).more (by omega), BC.out⟩
  exact AllReadyH.nil
 exact AllReadyH.nil
theorem does4 (wv vv : Value) (N : Int) (xo : Option Addr) (co : Nat) (l : List UInt8) (h p q : Nat) (S : PD) (R : RD) (T : Nat) (x : Int) (X B0 : Nat) (w : World) (hrow : Row w h 50 [.pointer (some ⟨p, 0, none⟩), .pointer (some ⟨q, 0, none⟩), wv, vv]) (hS : Dsk w p S) (hR : Rdk w q R) (hlog : Logs w p q wv vv X B0) (hsim : Sim S R) (hwi : Wi R T x) (hnx : Nxi R X) (hpq : p ≠ q) (hhp : h ≠ p) (hhq : h ≠ q) (hT : T ≤ 30000000) (hx0 : 0 ≤ x) (hx : x ≤ 1000000000) (hX : X ≤ 100000000000000) (hB : B0 ≤ h ∧ B0 ≤ p ∧ B0 ≤ q) (hB0 : B0 ≤ w.heap.size) (hsh : ∀ w', Below B0 w w' → Sh w' (.slice xo l.length co) l) (hlen : l.length ≤ 140737488355328) :
  Calls Try.prog 15 #[.pointer (some ⟨h, 0, none⟩), .agg #[.int .i64 4, .int .i64 N, .slice xo l.length co]] w fun e w' => e = .returned (.bool true) ∧ Behind w h p q B0 T x X w' := by
 have hm : S.left ≤ 9223372036854775807 := by
  have h1 := hwi.left
  rcases hsim.left with ⟨-, h2, -⟩ | ⟨-, h2⟩ <;> omega
 have h0l : S.n0.length ≤ 50000000 := by rw [hsim.n0]; have := hwi.bd.a0; omega
 have h1l : S.n1.length ≤ 50000000 := by rw [hsim.n1]; have := hwi.bd.a1; omega
 have h0f : S.f0.length ≤ 50000000 := by rw [hsim.f0]; have := hwi.bd.f0; omega
 have h1f : S.f1.length ≤ 50000000 := by rw [hsim.f1]; have := hwi.bd.f1; omega
 have hlim : -1000000000000 ≤ S.lim ∧ S.lim ≤ 1000000000000 := by rw [hsim.lim]; have := hwi.lim; omega
 have HH := Lib.hid hrow
 have HS := Lib.hid hS
 have HR := Lib.hid hR
 have HSH := Lib.hid hsh
 have HWI := Lib.hid hwi
 have HNX := Lib.hid hnx
 have HSIM := Lib.hid hsim
 have HLOG := Lib.hid hlog
 clear hrow hS hR hsh hwi hnx hsim hlog
 have hhs := HH.out.lt
 have hps := HS.out.lt
 have hqs := HR.out.lt
 have hba := balloc (Below.refl w.heap.size w) (.cells #[.int .i64 4, .int .i64 N, .slice xo l.length co] 38)
 have HBA := Lib.hid hba
 clear hba
 go_enter Try.func15, Try.ntmps15
 go_upto_region 13 with (go_at_call 9; refine (bytes_act 4 N xo co l _ (HSH.out _ (HBA.out.mono hB0)) hlen).mono ?_; rintro e w1 ⟨rfl, hb1⟩; have hb01 := bstep HBA.out hb1; have H1 := Lib.hid (HH.out.keep hb01); have D1 := Lib.hid (HS.out.keepB hb01); have R1 := Lib.hid (HR.out.keepB hb01); have L1 := Lib.hid (HLOG.out.keep hb01); have A1 := Lib.hid ((Row.new w 38 [.int .i64 4, .int .i64 N, .slice xo l.length co]).keep hb1); have B1 := Lib.hid (hb01.mono hB0); have hs1 := hb01.size; have SH1 := Lib.hid (fun w' hb => (HSH.out w' hb).taken); have hbl : (l.take 3000).length ≤ 3000 := (by rw [List.length_take]; omega); generalize l.take 3000 = b at *; have a0 := Row.cell (A1.out) 0; have a1 := Row.cell (A1.out) 1; have a2 := Row.cell (A1.out) 2; simp only [List.getElem?_cons_succ, List.getElem?_cons_zero] at a0 a1 a2; have c0 := Row.cell (H1.out) 0; have c1 := Row.cell (H1.out) 1; have c2 := Row.cell (H1.out) 2; have c3 := Row.cell (H1.out) 3; simp only [List.getElem?_cons_succ, List.getElem?_cons_zero] at c0 c1 c2 c3; clear hb1 hb01 HH HS HR HLOG HBA HSH)
 have bd := (Below.refl w1.heap.size w1).drew
 have HW := Lib.hid (H1.out.keep bd)
 have DW := Lib.hid (D1.out.keepB bd)
 have RW := Lib.hid (R1.out.keepB bd)
 have LW := Lib.hid (L1.out.keep bd)
 have AW := Lib.hid (A1.out.keep bd)
 have BW := Lib.hid (B1.out.trans (bd.mono (by omega)))
 have hsW : w.heap.size ≤ (World.drew w1).heap.size := by have := bd.size; omega
 clear a0 a1 a2 c0 c1 c2 c3 H1 D1 R1 L1 A1 B1 bd hs1
 refine wp_region_held_drew (S := fun w' => Row w' h 50 [.pointer (some ⟨p, 0, none⟩), .pointer (some ⟨q, 0, none⟩), wv, vv] ∧ Row w' w.heap.size 38 [.int .i64 4, .int .i64 N, .slice xo l.length co]) (by kernel_rfl) (by exact ⟨HW.out, AW.out⟩) (fun hHeld => ?_)
 generalize World.drew w1 = W at *
 refine tH (i := 0) (v := ?_) (y := (Or.inl ⟨by rfl, ?_⟩)) (h := ?_)
 rotate_left
 ·intro w _; go_simp; try with_reducible rfl
 try simp only [Act.put, List.setIfInBounds_toArray, List.set_cons_zero, List.set_cons_succ, Array.replicate]
 refine tH (i := 1) (v := ?_) (y := (Or.inl ⟨by rfl, ?_⟩)) (h := ?_)
 rotate_left
 ·intro w _; go_simp; try with_reducible rfl
 try simp only [Act.put, List.setIfInBounds_toArray, List.set_cons_zero, List.set_cons_succ, Array.replicate]
 refine tH (i := 2) (v := ?_) (y := (Or.inl ⟨by rfl, ?_⟩)) (h := ?_)
 rotate_left
 ·intro w _; go_simp; try with_reducible rfl
 try simp only [Act.put, List.setIfInBounds_toArray, List.set_cons_zero, List.set_cons_succ, Array.replicate]
 refine tH (i := 3) (v := ?_) (y := (Or.inl ⟨by rfl, ?_⟩)) (h := ?_)
 rotate_left
 ·intro w hSS; have c0 := Row.cell hSS.1 0; simp only [List.getElem?_cons_succ, List.getElem?_cons_zero] at c0; go_simp; try with_reducible rfl
 try simp only [Act.put, List.setIfInBounds_toArray, List.set_cons_zero, List.set_cons_succ, Array.replicate]
 refine tH (i := 4) (v := ?_) (y := (Or.inl ⟨by rfl, ?_⟩)) (h := ?_)
 rotate_left
 ·intro w _; go_simp; try with_reducible rfl
 try simp only [Act.put, List.setIfInBounds_toArray, List.set_cons_zero, List.set_cons_succ, Array.replicate]
 refine tH (i := 5) (v := ?_) (y := (Or.inl ⟨by rfl, ?_⟩)) (h := ?_)
 rotate_left
 ·intro w hSS; have b1 := Row.cell hSS.2 1; simp only [List.getElem?_cons_succ, List.getElem?_cons_zero] at b1; go_simp; try with_reducible rfl
 try simp only [Act.put, List.setIfInBounds_toArray, List.set_cons_zero, List.set_cons_succ, Array.replicate]
 refine tH (i := 7) (v := ?_) (y := (Or.inl ⟨by rfl, ?_⟩)) (h := ?_)
 rotate_left
 ·intro w _; go_simp; try with_reducible rfl
 try simp only [Act.put, List.setIfInBounds_toArray, List.set_cons_zero, List.set_cons_succ, Array.replicate]
 refine rH [6] (h := ?_)
 refine cH (h := fun K hK => ?_) (hs := ?_)
 ·go_simp
  refine hK.out _ _ (by exact ⟨Row.alloc hHeld.1 _, Row.alloc hHeld.2 _⟩) (fun hHeld => ?_)
  clear hK K
  try simp only [Act.put, List.setIfInBounds_toArray, List.set_cons_zero, List.set_cons_succ, Array.replicate]
  refine rH [8] (h := ?_)
  refine cH (h := fun K hK => ?_) (hs := ?_)
  ·go_loud (have hbw := balloc (Below.refl W.heap.size W) (.cells #[] 5); have HSH := Lib.hid (SH1.out _ (BW.out.trans (hbw.mono (by omega)))); refine step_app_own Try.underlying27 info_byte (by with_unfolding_all rfl) (.tmp 101) (.tmp 102) rfl rfl (Row.new W 5 []) rfl HSH.out (by omega) ?_; intro va wa hoa hba; have hbwa := bstep hbw hba; have DA := Lib.hid (DW.out.keepB hbwa); have RA := Lib.hid (RW.out.keepB hbwa); have LA := Lib.hid (LW.out.keep hbwa); have BA := Lib.hid (BW.out.trans (hbwa.mono (by omega))); have hsa := hbwa.size; have hoa' : Own wa 0 5 va b := (by simpa using hoa.mono (Nat.zero_le _)))
   refine hK.out _ _ (by exact ⟨Row.keep hHeld.1 hba, Row.keep hHeld.2 hba⟩) (fun hHeld => ?_)
   clear hK K
   try simp only [Act.put, List.setIfInBounds_toArray, List.set_cons_zero, List.set_cons_succ, Array.replicate]
   refine rH [9] (h := ?_)
   refine cH (h := fun K hK => ?_) (hs := ?_)
   ·go_simp; go_at_call 21; go_loud (refine (Crash_any p N _ b S _ DA.out (fun w' hu => (hu.own hoa' DA.out.rowC.choose_spec (by decide)).sh) (by omega) (fun _ => by omega)).mono ?_; rintro e wb ⟨rfl, hdb, hub⟩; have RB := Lib.hid (RA.out.upd DA.out hpq.symm hub); have LB := Lib.hid (LA.out.updP DA.out hub); have BB := Lib.hid (BA.out.trans (hub.below hB.2.1 (by omega))); have hsb := hub.sizeLe; try go_simp)
    refine hK.out _ _ (by exact ⟨hub.row hHeld.1 hhp, hub.row hHeld.2 (by omega)⟩) (fun hHeld => ?_)
    clear hK K
    try simp only [Act.put, List.setIfInBounds_toArray, List.set_cons_zero, List.set_cons_succ, Array.replicate]
    refine wpAnyH_done (by kernel_rfl) ?_ _
    go_upto_region 14 with fail
    have bd := (Below.refl wb.heap.size wb).drew
    have HX := Lib.hid (Row.keep hHeld.1 bd)
    have AX := Lib.hid (Row.keep hHeld.2 bd)
    have DX := Lib.hid (Dsk.keepB hdb bd)
    have RX := Lib.hid (RB.out.keepB bd)
    have LX := Lib.hid (LB.out.keep bd)
    have BX := Lib.hid (BB.out.trans (bd.mono (by omega)))
    have hsX : w.heap.size ≤ (World.drew wb).heap.size := by have := bd.size; omega
    refine wp_region_held_drew (S := fun w' => Row w' h 50 [.pointer (some ⟨p, 0, none⟩), .pointer (some ⟨q, 0, none⟩), wv, vv] ∧ Row w' w.heap.size 38 [.int .i64 4, .int .i64 N, .slice xo l.length co]) (by kernel_rfl) (by exact ⟨HX.out, AX.out⟩) (fun hHeld => ?_)
    generalize World.drew wb = W2 at *
    refine tH (i := 0) (v := ?_) (y := (Or.inl ⟨by rfl, ?_⟩)) (h := ?_)
    rotate_left
    ·intro w _; go_simp; try with_reducible rfl
    try simp only [Act.put, List.setIfInBounds_toArray, List.set_cons_zero, List.set_cons_succ, Array.replicate]
    refine tH (i := 1) (v := ?_) (y := (Or.inl ⟨by rfl, ?_⟩)) (h := ?_)
    rotate_left
    ·intro w _; go_simp; try with_reducible rfl
    try simp only [Act.put, List.setIfInBounds_toArray, List.set_cons_zero, List.set_cons_succ, Array.replicate]
    refine tH (i := 2) (v := ?_) (y := (Or.inl ⟨by rfl, ?_⟩)) (h := ?_)
    rotate_left
    ·intro w _; go_simp; try with_reducible rfl
    try simp only [Act.put, List.setIfInBounds_toArray, List.set_cons_zero, List.set_cons_succ, Array.replicate]
    refine tH (i := 3) (v := ?_) (y := (Or.inl ⟨by rfl, ?_⟩)) (h := ?_)
    rotate_left
    ·intro w hSS; have c1 := Row.cell hSS.1 1; simp only [List.getElem?_cons_succ, List.getElem?_cons_zero] at c1; go_simp; try with_reducible rfl
    try simp only [Act.put, List.setIfInBounds_toArray, List.set_cons_zero, List.set_cons_succ, Array.replicate]
    refine tH (i := 4) (v := ?_) (y := (Or.inl ⟨by rfl, ?_⟩)) (h := ?_)
    rotate_left
    ·intro w _; go_simp; try with_reducible rfl
    try simp only [Act.put, List.setIfInBounds_toArray, List.set_cons_zero, List.set_cons_succ, Array.replicate]
    refine tH (i := 5) (v := ?_) (y := (Or.inl ⟨by rfl, ?_⟩)) (h := ?_)
    rotate_left
    ·intro w hSS; have b1 := Row.cell hSS.2 1; simp only [List.getElem?_cons_succ, List.getElem?_cons_zero] at b1; go_simp; try with_reducible rfl
    try simp only [Act.put, List.setIfInBounds_toArray, List.set_cons_zero, List.set_cons_succ, Array.replicate]
    refine tH (i := 6) (v := ?_) (y := (Or.inl ⟨by rfl, ?_⟩)) (h := ?_)
    rotate_left
    ·intro w _; go_simp; try with_reducible rfl
    try simp only [Act.put, List.setIfInBounds_toArray, List.set_cons_zero, List.set_cons_succ, Array.replicate]
    refine rH [7] (h := ?_)
    refine cH (h := fun K hK => ?_) (hs := ?_)
    ·go_simp; go_at_call 36; go_loud (refine (refCrash_any q N _ b R T _ RX.out (fun w' hu => SH1.out _ (BX.out.trans (hu.below hB.2.2 (by omega)))) HWI.out.bd (by omega)).mono ?_; rintro e wc ⟨rfl, hdc, huc⟩; have DC := Lib.hid (DX.out.upd RX.out hpq huc); have LC := Lib.hid (LX.out.updQ RX.out huc); have BC := Lib.hid (BX.out.trans (huc.below hB.2.2 (by omega))); have hsc := huc.sizeLe; try go_simp)
     refine hK.out _ _ (by exact ⟨huc.row hHeld.1 hhq, huc.row hHeld.2 (by omega)⟩) (fun hHeld => ?_)
     clear hK K
     try simp only [Act.put, List.setIfInBounds_toArray, List.set_cons_zero, List.set_cons_succ, Array.replicate]
     refine wpAnyH_done (by kernel_rfl) ?_ _
     have HSIM2 := Lib.hid (HSIM.out.crash N b)
     have HWI2 := Lib.hid ((HWI.out.crash N b).more (show T + b.length ≤ T + 3000 by omega) (Int.le_refl _))
     have HNX2 := Lib.hid (HNX.out.crash N b)
     generalize S.crash N b = S2 at *
     generalize R.crash N b = R2 at *
     obtain ⟨wq, vq, rfl, rfl⟩ := LC.out.ptr
     go_wp2_with (go_at_call 14; go_loud (refine (opens_any h p q S2 R2 (T + 3000) x B0 wq vq _ hHeld.1 DC.out hdc HSIM2.out hpq hhp hhq HWI2.out (by omega) (by omega) hB (by omega)).mono ?_; rintro e w2 ⟨rfl, wv', vv', hr2, hd2, hR2, hl2, hb2⟩))
     go_ret
     have hk := HNX2.out.kept HWI2.out.bd.a0
     rw [← HSIM2.out.n0, ← HSIM2.out.n1] at hk
     exact ⟨rfl, _, _, ⟨_, _, hr2, hd2, hR2, hl2.more (by omega)⟩, (HSIM2.out.wopen).2, HWI2.out.ropen.more (by omega) (by omega), HNX2.out.ropen.more (by omega), BC.out.trans hb2⟩
    exact AllReadyH.nil
   exact AllReadyH.nil
  exact AllReadyH.nil
 exact AllReadyH.nil
theorem doesx (wv vv : Value) (K N : Int) (k0 : ¬ K = 0) (k1 : ¬ K = 1) (k2 : ¬ K = 2) (k3 : ¬ K = 3) (k4 : ¬ K = 4) (xo : Option Addr) (co : Nat) (l : List UInt8) (h p q : Nat) (S : PD) (R : RD) (T : Nat) (x : Int) (X B0 : Nat) (w : World) (hrow : Row w h 50 [.pointer (some ⟨p, 0, none⟩), .pointer (some ⟨q, 0, none⟩), wv, vv]) (hS : Dsk w p S) (hR : Rdk w q R) (hlog : Logs w p q wv vv X B0) (hsim : Sim S R) (hwi : Wi R T x) (hnx : Nxi R X) (hpq : p ≠ q) (hhp : h ≠ p) (hhq : h ≠ q) (hT : T ≤ 30000000) (hx0 : 0 ≤ x) (hx : x ≤ 1000000000) (hX : X ≤ 100000000000000) (hB : B0 ≤ h ∧ B0 ≤ p ∧ B0 ≤ q) (hB0 : B0 ≤ w.heap.size) (hsh : ∀ w', Below B0 w w' → Sh w' (.slice xo l.length co) l) (hlen : l.length ≤ 140737488355328) :
  Calls Try.prog 15 #[.pointer (some ⟨h, 0, none⟩), .agg #[.int .i64 K, .int .i64 N, .slice xo l.length co]] w fun e w' => e = .returned (.bool true) ∧ Behind w h p q B0 T x X w' := by
 have hm : S.left ≤ 9223372036854775807 := by
  have h1 := hwi.left
  rcases hsim.left with ⟨-, h2, -⟩ | ⟨-, h2⟩ <;> omega
 have h0l : S.n0.length ≤ 50000000 := by rw [hsim.n0]; have := hwi.bd.a0; omega
 have h1l : S.n1.length ≤ 50000000 := by rw [hsim.n1]; have := hwi.bd.a1; omega
 have h0f : S.f0.length ≤ 50000000 := by rw [hsim.f0]; have := hwi.bd.f0; omega
 have h1f : S.f1.length ≤ 50000000 := by rw [hsim.f1]; have := hwi.bd.f1; omega
 have hlim : -1000000000000 ≤ S.lim ∧ S.lim ≤ 1000000000000 := by rw [hsim.lim]; have := hwi.lim; omega
 have HH := Lib.hid hrow
 have HS := Lib.hid hS
 have HR := Lib.hid hR
 have HSH := Lib.hid hsh
 have HWI := Lib.hid hwi
 have HNX := Lib.hid hnx
 have HSIM := Lib.hid hsim
 have HLOG := Lib.hid hlog
 clear hrow hS hR hsh hwi hnx hsim hlog
 have hhs := HH.out.lt
 have hps := HS.out.lt
 have hqs := HR.out.lt
 have hba := balloc (Below.refl w.heap.size w) (.cells #[.int .i64 K, .int .i64 N, .slice xo l.length co] 38)
 have HBA := Lib.hid hba
 clear hba
 go_enter Try.func15, Try.ntmps15
 go_wp2_with (go_at_call 9; refine (bytes_act K N xo co l _ (HSH.out _ (HBA.out.mono hB0)) hlen).mono ?_; rintro e w1 ⟨rfl, hb1⟩; have hb01 := bstep HBA.out hb1; have H1 := Lib.hid (HH.out.keep hb01); have D1 := Lib.hid (HS.out.keepB hb01); have R1 := Lib.hid (HR.out.keepB hb01); have L1 := Lib.hid (HLOG.out.keep hb01); have A1 := Lib.hid ((Row.new w 38 [.int .i64 K, .int .i64 N, .slice xo l.length co]).keep hb1); have B1 := Lib.hid (hb01.mono hB0); have hs1 := hb01.size; have SH1 := Lib.hid (fun w' hb => (HSH.out w' hb).taken); have hbl : (l.take 3000).length ≤ 3000 := (by rw [List.length_take]; omega); generalize l.take 3000 = b at *; have a0 := Row.cell (A1.out) 0; have a1 := Row.cell (A1.out) 1; have a2 := Row.cell (A1.out) 2; simp only [List.getElem?_cons_succ, List.getElem?_cons_zero] at a0 a1 a2; have c0 := Row.cell (H1.out) 0; have c1 := Row.cell (H1.out) 1; have c2 := Row.cell (H1.out) 2; have c3 := Row.cell (H1.out) 3; simp only [List.getElem?_cons_succ, List.getElem?_cons_zero] at c0 c1 c2 c3; clear hb1 hb01 HH HS HR HLOG HBA HSH)
 go_ret
 exact ⟨rfl, S, R, ⟨_, _, H1.out, D1.out, R1.out, L1.out.more (by omega)⟩, HSIM.out, HWI.out.more (by omega) (by omega), HNX.out.more (by omega), B1.out⟩
theorem does_any (K N : Int) (xo : Option Addr) (co : Nat) (l : List UInt8) (h p q : Nat) (S : PD) (R : RD) (T : Nat) (x : Int) (X B0 : Nat) (w : World) (hp : Pr w h p q S R X B0) (hsim : Sim S R) (hwi : Wi R T x) (hnx : Nxi R X) (hpq : p ≠ q) (hhp : h ≠ p) (hhq : h ≠ q) (hT : T ≤ 30000000) (hx0 : 0 ≤ x) (hx : x ≤ 1000000000) (hX : X ≤ 100000000000000) (hB : B0 ≤ h ∧ B0 ≤ p ∧ B0 ≤ q) (hB0 : B0 ≤ w.heap.size) (hsh : ∀ w', Below B0 w w' → Sh w' (.slice xo l.length co) l) (hlen : l.length ≤ 140737488355328) (hN : N ≤ 9223372036854775807) :
  Calls Try.prog 15 #[.pointer (some ⟨h, 0, none⟩), .agg #[.int .i64 K, .int .i64 N, .slice xo l.length co]] w fun e w' => e = .returned (.bool true) ∧ Behind w h p q B0 T x X w' := by
 obtain ⟨wv, vv, hrow, hS, hR, hlog⟩ := hp
 by_cases k0 : K = 0
 ·subst k0
  rcases hlog with ⟨rfl, rfl⟩ | ⟨qa, qb, n, rfl, rfl, hqa, hqb, hnX, hBa, hBb⟩
  ·exact does0n N xo co l h p q S R T x X B0 w hrow hS hR hsim hwi hnx hpq hhp hhq hT hx0 hx hX hB hB0 hsh hlen
  ·exact does0y qa qb n N xo co l h p q S R T x X B0 w hrow hS hR hqa hqb hnX hBa hBb hsim hwi hnx hpq hhp hhq hT hx0 hx hX hB hB0 hsh hlen
 by_cases k1 : K = 1
 ·subst k1
  rcases hlog with ⟨rfl, rfl⟩ | ⟨qa, qb, n, rfl, rfl, hqa, hqb, hnX, hBa, hBb⟩
  ·exact does1n N xo co l h p q S R T x X B0 w hrow hS hR hsim hwi hnx hpq hhp hhq hT hx0 hx hX hB hB0 hsh hlen
  ·exact does1y qa qb n N xo co l h p q S R T x X B0 w hrow hS hR hqa hqb hnX hBa hBb hsim hwi hnx hpq hhp hhq hT hx0 hx hX hB hB0 hsh hlen
 by_cases k2 : K = 2
 ·subst k2
  exact does2 wv vv N xo co l h p q S R T x X B0 w hrow hS hR hlog hsim hwi hnx hpq hhp hhq hT hx0 hx hX hB hB0 hsh hlen
 by_cases k3 : K = 3
 ·subst k3
  exact does3 wv vv N xo co l h p q S R T x X B0 w hrow hS hR hlog hsim hwi hnx hpq hhp hhq hT hx0 hx hX hB hB0 hsh hN hlen
 by_cases k4 : K = 4
 ·subst k4
  exact does4 wv vv N xo co l h p q S R T x X B0 w hrow hS hR hlog hsim hwi hnx hpq hhp hhq hT hx0 hx hX hB hB0 hsh hlen
 exact doesx wv vv K N k0 k1 k2 k3 k4 xo co l h p q S R T x X B0 w hrow hS hR hlog hsim hwi hnx hpq hhp hhq hT hx0 hx hX hB hB0 hsh hlen
end Go.Proofs.Ytkghkpkiodghiaa
