/- A log's files as they are read: records, snapshot. -/
import Derived.Test.YtkghkpkiodghiaaTk
import Derived.Test.YtkghkpkiodghiaaWal1
import Derived.Test.YtkghkpkiodghiaaWalP
import Derived.Test.YtkghkpkiodghiaaArr
import Derived.OrdersHeld
import Derived.Deep.RegionHeld
namespace Go.Proofs.Ytkghkpkiodghiaa
set_option linter.unusedVariables false
set_option linter.unusedSimpArgs false
set_option linter.unnecessarySimpa false
open Go.RowKit
set_option maxRecDepth 100000
set_option maxHeartbeats 4000000

/-- The row of what is had: whether there is a snapshot, that, the records, the next number. -/
def KepC (has : Bool) (sv rv : Value) (nx : Nat) : List Value := [.bool has, sv, rv, .int .u64 (nx : Int)]
theorem Upd.rowOwn {p t e B size n : Nat} {C xs : List Value} {v : Value} {a b : World} (h : Upd p a b) (ho : a.ownsRow B e size v n xs) (hr : Row a p t C) (he : e ≠ t) : b.ownsRow B e size v n xs := by
 refine World.ownsRow.kept ho h ?_
 rcases ho.2 with ⟨rfl, _⟩ | ⟨g, cap, cur, rfl, _, hg, _⟩
 ·exact .inl rfl
 ·refine .inr fun hc => ?_
  simp only [Value.ownBlock, Option.some.injEq] at hc
  subst hc
  unfold Row at hr
  rw [hg] at hr
  simp only [Option.some.injEq, Obj.cells.injEq] at hr
  exact he hr.2.1
theorem Upd.bos {p t B : Nat} {C : List Value} {v : Value} {L : List (List UInt8)} {a b : World} (h : Upd p a b) (ho : BOs a B v L) (hr : Row a p t C) (h1 : 27 ≠ t) (h2 : 5 ≠ t) : BOs b B v L := by
 obtain ⟨xs, k1, k2, k3⟩ := ho
 exact ⟨xs, h.rowOwn k1 hr h1, k2, fun i hi => by obtain ⟨u, hu, hou⟩ := k3 i hi; exact ⟨u, hu, h.own hou hr h2⟩⟩
theorem BOs.mono {w : World} {B B' : Nat} {v : Value} {L : List (List UInt8)} (h : BOs w B v L) (hb : B' ≤ B) : BOs w B' v L := by
 obtain ⟨xs, k1, k2, k3⟩ := h
 refine ⟨xs, ⟨k1.1, ?_⟩, k2, k3⟩
 rcases k1.2 with k | ⟨g, cap, cur, e1, e2, e3⟩
 ·exact .inl k
 ·exact .inr ⟨g, cap, cur, e1, by omega, e3⟩
theorem BOs.cells {w : World} {base : Nat} {a : Option Addr} {n cap : Nat} {L : List (List UInt8)} (h : BOs w base (.slice a n cap) L) (hl : 0 < L.length) :
  ∃ b off, a = some ⟨b, off, none⟩ ∧ n = L.length ∧ ∀ i, i < L.length → ∃ u, w.cell? ⟨b, off + i, none⟩ = some u ∧ Own w 0 5 u (L.getD i []) := by
 obtain ⟨xs, h1, h2, h3⟩ := h
 have k := h1.shows
 have k' := k
 obtain ⟨hxl, a', cap', he, -⟩ := k
 simp only [Value.slice.injEq] at he
 obtain ⟨rfl, rfl, rfl⟩ := he
 obtain ⟨b, off, rfl, hc⟩ := Shows.cells1 k' (by omega)
 exact ⟨b, off, rfl, h2, fun i hi => by obtain ⟨u, hu, hs⟩ := h3 i hi; exact ⟨u, hc i u hu, hs⟩⟩
theorem Upd.thenBelow {p : Nat} {a b c : World} (h : Upd p a b) (k : Below a.heap.size b c) : Upd p a c :=
 ⟨k.os.trans h.os, k.tape.trans h.tape, k.output.trans h.output, Nat.le_trans h.size k.size, fun n hn hne => (k.block n hn).trans (h.block n hn hne)⟩
theorem step_app_bss {ops : Array Oper} {o : Oper} {a : Act} {w : World} {K : Act → World → Prop} {Q : Exit → Act → World → Prop} {E : Prop} (hgd : o.guard = none) (s x : Operand)
  (ho : o.op = .call { callee := .builtin .append, args := #[s, x], argTypes := #[28, 28] })
  {base : Nat} {v sv u : Value} {acc : List (List UInt8)} {l : List UInt8} (hs : a.eval s = v) (hown : BOs w base v acc) (hx : a.eval x = sv) (hsh : Shows w 1 sv 1 [u]) (hu : Own w 0 5 u l) (h1 : u.oneCell' = true)
  (hlen : acc.length ≤ 1000000000000) (hbase : base ≤ w.heap.size)
  (h : ∀ v' w', BOs w' base v' (acc ++ [l]) → Below base w w' → K (a.put o.dst v') w') : if Region.wanted o (yielded ops a.tmps) = true then Oper.wp Try.prog o a w K Q else E := by
 have hw : Region.wanted o (yielded ops a.tmps) = true := by simp [Region.wanted, hgd]
 rw [if_pos hw]
 obtain ⟨i, hi, hz0, hz1, hz2⟩ := info_parts info_slice
 obtain ⟨xs, k1, k2, k3⟩ := hown
 obtain ⟨v', w', hr, g1, g2⟩ := run_append_shows (P := Try.prog) w base 28 o.type 27 i (.slice none 0 0) 1 24 Try.underlying28 hi hz0 hz1 hz2 rfl (by decide) v _ _ k1 sv _ _ hsh (by simpa using h1) (by simp only [maxLen]; omega) (by omega) hbase
 unfold Oper.wp
 simp [execOp, ho, resolve, invoke, builtin, hs, hx, hr, Result.andThen]
 refine h v' w' ⟨xs ++ [u], ?_, by simp [k2], fun j hj => ?_⟩ ((Below.refl _ _).grown g2 hbase fun k hk => (World.ownsRow.lt k1 k hk).1)
 ·unfold Own1
  rw [List.length_append]; exact g1
 ·by_cases hjl : j < acc.length
  ·obtain ⟨y, hy, hoy⟩ := k3 j hjl
   refine ⟨y, by rw [List.getElem?_append_left (by omega)]; exact hy, ?_⟩
   have := World.ownsRow.kept hoy g2 (apart_rows hoy k1 (by decide))
   simpa [Own, List.getD, List.getElem?_append_left hjl] using this
  ·have hjj : j = acc.length := by simp at hj; omega
   subst hjj
   refine ⟨u, by rw [List.getElem?_append_right (by omega)]; simp [k2], ?_⟩
   have := World.ownsRow.kept hu g2 (apart_rows hu k1 (by decide))
   simpa [Own, List.getD] using this
theorem records_any (v : Value) (l : List UInt8) (h first : Nat) (has : Bool) (sv : Value) (w : World) (hr : Row w h 31 (KepC has sv (.slice none 0 0) first)) (hl : Sh w v l) (hlen : l.length ≤ 100000000) (hf : first ≤ 4611686018427387904) (S : List (List UInt8) × Nat × Nat) (hS : scF (l.length + 1) l = S) (hcn : S.1.length ≤ 100000000) (T : Nat × List (List UInt8) × Nat) (hT : recF first S.1 0 [] first = T) :
  Calls Try.prog 24 #[v, .pointer (some ⟨h, 0, none⟩)] w fun e w' => ∃ rv, e = .returned (.int .i64 (T.1 : Int)) ∧ Row w' h 31 (KepC has sv rv T.2.2) ∧ BOs w' w.heap.size rv T.2.1 ∧ Upd h w w' := by
 have hle : ∀ i, i < S.1.length → (S.1.getD i []).length ≤ 1048576 := fun i hi => by
  have := scF_le (l.length + 1) l (S.1.getD i []) (by rw [hS, List.getD, List.getElem?_eq_getElem hi]; exact List.getElem_mem hi)
  exact this
 have HLE := Lib.hid hle
 have HS := Lib.hid hS
 have HT := Lib.hid hT
 have HR := Lib.hid hr
 have HL := Lib.hid hl
 clear hr hl hle hS hT
 go_enter Try.func24, Try.ntmps24
 go_wp2_with (go_at_call 40; refine (ScanO_any _ l _ HL.out (by omega)).mono ?_; rw [HS.out]; rintro e w1 ⟨v1, rfl, ho1, hb1⟩; have R1 := Lib.hid (HR.out.keep hb1); have h3 := Row.cell R1.out 3; simp only [KepC, List.getElem?_cons_succ, List.getElem?_cons_zero] at h3; obtain ⟨x1, c1, rfl, g1, g2, g3⟩ := ho1.bss.open; have O1 := Lib.hid ho1; have B1 := Lib.hid hb1; clear ho1 hb1 g3)
 refine wp_region_held_drew (S := (fun w' => w'.cell? ⟨h, 3, none⟩ = some (.int .u64 (first : Int)))) (by kernel_rfl) h3 (fun hHeld => ?_)
 refine tH (i := 4) (v := ?_) (y := (Or.inl ⟨by rfl, ?_⟩)) (h := ?_)
 rotate_left
 ·intro w _; go_simp; try with_reducible rfl
 try simp only [Act.put, List.setIfInBounds_toArray, List.set_cons_zero, List.set_cons_succ, Array.replicate]
 refine tH (i := 0) (v := ?_) (y := (Or.inl ⟨by rfl, ?_⟩)) (h := ?_)
 rotate_left
 ·intro w _; go_simp; try with_reducible rfl
 try simp only [Act.put, List.setIfInBounds_toArray, List.set_cons_zero, List.set_cons_succ, Array.replicate]
 refine tH (i := 1) (v := ?_) (y := (Or.inl ⟨by rfl, ?_⟩)) (h := ?_)
 rotate_left
 ·intro w _; go_simp; try with_reducible rfl
 try simp only [Act.put, List.setIfInBounds_toArray, List.set_cons_zero, List.set_cons_succ, Array.replicate]
 refine tH (i := 2) (v := ?_) (y := (Or.inl ⟨by rfl, ?_⟩)) (h := ?_)
 rotate_left
 ·intro w _; go_simp; try with_reducible rfl
 try simp only [Act.put, List.setIfInBounds_toArray, List.set_cons_zero, List.set_cons_succ, Array.replicate]
 refine tH (i := 3) (v := ?_) (y := (Or.inl ⟨by rfl, ?_⟩)) (h := ?_)
 rotate_left
 ·intro w hSS; have h3' := hSS; go_simp; try with_reducible rfl
 try simp only [Act.put, List.setIfInBounds_toArray, List.set_cons_zero, List.set_cons_succ, Array.replicate]
 refine tH (i := 5) (v := ?_) (y := (Or.inl ⟨by rfl, ?_⟩)) (h := ?_)
 rotate_left
 ·intro w _; go_simp; try with_reducible rfl
 try simp only [Act.put, List.setIfInBounds_toArray, List.set_cons_zero, List.set_cons_succ, Array.replicate]
 refine wpAnyH_done (by kernel_rfl) ?_ _
 clear hHeld h3
 have R1d := Lib.hid (Row.drew R1.out)
 have hRh := R1.out.lt
 have B1d := Lib.hid (B1.out.drew)
 have O1d := Lib.hid (O1.out.below (Below.refl _ _).drew)
 generalize w1.drew = w2 at *
 clear R1 B1 O1
 generalize S.2.1 = S21 at *
 generalize S.2.2 = S22 at *
 go_wp2_with fail
 go_loopw [8, 27] (fun at' i wr => ∃ (j a : Nat) (R : List (List UInt8)) (nx : Nat) (rv : Value), j ≤ S.1.length ∧ i = .int .i64 (j : Int) ∧ at' = .int .i64 (a : Int) ∧ Row wr h 31 (KepC has sv rv nx) ∧ BOs wr w2.heap.size rv R ∧ Upd h w2 wr ∧ recF first (S.1.drop j) a R nx = T ∧ nx ≤ first + j ∧ a ≤ j * 2000000 ∧ R.length ≤ j) (fun _ i _ => S.1.length - (intOf i).toNat)
 case atStart => exact ⟨0, 0, [], first, _, by omega, rfl, rfl, R1d.out, BOs.nil _ _, Upd.refl _ _, by rw [List.drop_zero]; exact HT.out, by omega, by omega, by simp⟩
 case round =>
  obtain ⟨j, a, R, nx, rv, hj, rfl, rfl, hr, ho, hu, hrec, hnx, ha, hRl⟩ := hrel
  have HR2 := Lib.hid hr
  have HO := Lib.hid ho
  have HU := Lib.hid hu
  clear hr ho hu
  by_cases hlt : j < S.1.length
  ·have hdj : S.1.drop j = S.1.getD j [] :: S.1.drop (j + 1) := by rw [List.drop_eq_getElem_cons hlt, List.getD, List.getElem?_eq_getElem hlt]; rfl
   rw [hdj] at hrec
   have HREC := Lib.hid hrec
   have hdl := HLE.out j hlt
   obtain ⟨b, off, rfl, -, hat⟩ := (HU.out.bos O1d.out R1d.out (by decide) (by decide)).cells (by omega)
   obtain ⟨u, hu, hou⟩ := hat j hlt
   have hjI : (j : Int) < (S.1.length : Int) := by omega
   have HOU := Lib.hid hou
   obtain ⟨x, c, rfl, -⟩ := hou.sh.open
   clear hrec hdj hat hou
   generalize S.1.getD j [] = d at *
   rcases htk : tk d with ⟨n, k, E⟩
   have HRR := Lib.hid (show tkRest d = tkRest d from rfl)
   have hun : recF first (d :: S.1.drop (j + 1)) a R nx = if (tk d).2.2 ≠ 0 then (a, R, nx) else if (tk d).1 < first ∧ R.length = 0 then recF first (S.1.drop (j + 1)) (a + (frameB d).length) R nx else if (tk d).1 = nx then recF first (S.1.drop (j + 1)) (a + (frameB d).length) (R ++ [tkRest d]) (nx + 1) else (a, R, nx) := rfl
   rw [htk] at hun
   rw [hun] at HREC
   have hql : (tkRest d).length ≤ d.length := by
    unfold tkRest
    split <;> simp
   have HQL := Lib.hid (show (tkRest d).length ≤ 140737488355328 by omega)
   clear hql
   have HTK := Lib.hid htk
   have hfl := frameB_length d hdl
   have hns := nsize_le d.length
   have hflb : (frameB d).length ≤ 2000000 := by omega
   have HSZ := Lib.hid (sizeF_of d hdl)
   have hwa : IntKind.i64.wrap ((a : Int) + ((frameB d).length : Int)) = ((a + (frameB d).length : Nat) : Int) := by rw [IntWalk.i64_in _ ⟨by omega, by omega⟩]; omega
   have hwn : IntKind.u64.wrap ((nx : Int) + 1) = ((nx + 1 : Nat) : Int) := by rw [IntWalk.u64_in _ ⟨by omega, by omega⟩]; omega
   have HWA := Lib.hid hwa
   have HWN := Lib.hid hwn
   have HFLB := Lib.hid hflb
   clear htk hun hfl hns hflb hwa hwn
   generalize hq : tkRest d = q at *
   have HQE := Lib.hid hq
   clear hq
   generalize (frameB d).length = fl at *
   have hsb := B1d.out.size
   have hu2 := (Upd.of_below (p := h) B1d.out).trans HU.out
   have HU2 := Lib.hid hu2
   have HA2 := Lib.hid ha
   have HJ := Lib.hid hj
   clear hu2
   by_cases hE : E = 0
   ·subst hE
    by_cases hlf : n < first ∧ R.length = 0
    ·obtain ⟨hlf, hR0⟩ := hlf
     obtain rfl : R = [] := List.eq_nil_of_length_eq_zero hR0
     have hnI : (n : Int) < (first : Int) := by omega
     obtain ⟨xr, cr, rfl, -, -, -⟩ := HO.out.bss.open
     have hT := HREC.out
     rw [if_neg (by simp), if_pos ⟨hlf, hR0⟩] at hT
     have HTT := Lib.hid hT
     clear hT HREC hlf hR0
     go_wp2_with (first
      | (go_at_call 41; refine (Take_any _ d _ HOU.out.sh (by omega)).mono ?_; rw [HTK.out, HQE.out]; rintro e w3 ⟨v3, rfl, ho3, hb3⟩; have R3 := Lib.hid (HR2.out.keep hb3); have h2 := Row.cell R3.out 2; have h3 := Row.cell R3.out 3; simp only [KepC, List.getElem?_cons_succ, List.getElem?_cons_zero] at h2 h3; have O3 := Lib.hid ho3; have B3 := Lib.hid hb3; clear ho3 hb3)
      | (go_at_call 42; refine (Sizef_any _ _).mono ?_; rw [HSZ.out]; rintro e w4 ⟨rfl, rfl⟩; have hwa := HWA.out))
     exact ⟨⟨j + 1, a + fl, [], nx, _, by omega, by go_num, by rfl, R3.out, HO.out.below B3.out, HU.out.trans (Upd.of_below B3.out), HTT.out, by omega, by have := HFLB.out; omega, by simp⟩, by simp [intOf]; omega⟩
    ·have hTn : ¬ (n < first ∧ R.length = 0) := hlf
     clear hlf
     obtain ⟨xr, cr, rfl, -, -, -⟩ := HO.out.bss.open
     by_cases hne : n = nx
     ·subst hne
      have hT := HREC.out
      rw [if_neg (by simp), if_neg hTn, if_pos (by rfl)] at hT
      have HTT := Lib.hid hT
      clear hT HREC
      by_cases hlf2 : n < first
      ·have hnI : (n : Int) < (first : Int) := by omega
       have hR0I : ¬ (R.length : Int) = 0 := by omega
       clear hTn hlf2
       go_upto_region 12 with (go_at_call 41; refine (Take_any _ d _ HOU.out.sh (by omega)).mono ?_; rw [HTK.out, HQE.out]; rintro e w3 ⟨v3, rfl, ho3, hb3⟩; have R3 := Lib.hid (HR2.out.keep hb3); have h2 := Row.cell R3.out 2; have h3 := Row.cell R3.out 3; simp only [KepC, List.getElem?_cons_succ, List.getElem?_cons_zero] at h2 h3; have O3 := Lib.hid ho3; have B3 := Lib.hid hb3; clear ho3 hb3)
       have R4 := Lib.hid (Row.drew R3.out)
       have O4 := Lib.hid (O3.out.below (Below.refl _ _).drew)
       have OR4 := Lib.hid ((HO.out.below B3.out).below (Below.refl _ _).drew)
       have HU4 := Lib.hid (HU.out.trans (Upd.of_below B3.out.drew))
       have HS24 := Lib.hid (Nat.le_trans HU.out.sizeLe (Nat.le_trans B3.out.size (Below.refl w3.heap.size w3).drew.size))
       have HH2 := Lib.hid (R1d.out.lt)
       have HRL := Lib.hid hRl
       clear h2 h3 R3 B3
       refine wp_region_any (by kernel_rfl) ?_
       try (change wpAny _ _ _ _ _ _ _ (World.drew _))
       generalize World.drew w3 = w4 at *
       have h24 := Row.cell R4.out 2; simp only [KepC, List.getElem?_cons_succ, List.getElem?_cons_zero] at h24
       refine tA (i := 0) (v := ?_) (y := (Or.inl ⟨by rfl, ?_⟩)) (h := ?_)
       rotate_left
       ·intro w; go_simp; try with_reducible rfl
       try simp only [Act.put, List.setIfInBounds_toArray, List.set_cons_zero, List.set_cons_succ, Array.replicate]
       refine tA (i := 1) (v := ?_) (y := (Or.inl ⟨by rfl, ?_⟩)) (h := ?_)
       rotate_left
       ·intro w; go_simp; try with_reducible rfl
       try simp only [Act.put, List.setIfInBounds_toArray, List.set_cons_zero, List.set_cons_succ, Array.replicate]
       refine tA (i := 2) (v := ?_) (y := (Or.inl ⟨by rfl, ?_⟩)) (h := ?_)
       rotate_left
       ·intro w; go_simp; try with_reducible rfl
       try simp only [Act.put, List.setIfInBounds_toArray, List.set_cons_zero, List.set_cons_succ, Array.replicate]
       refine tA (i := 3) (v := ?_) (y := (Or.inl ⟨by rfl, ?_⟩)) (h := ?_)
       rotate_left
       ·intro w; go_simp; try with_reducible rfl
       try simp only [Act.put, List.setIfInBounds_toArray, List.set_cons_zero, List.set_cons_succ, Array.replicate]
       refine tA (i := 5) (v := ?_) (y := (Or.inl ⟨by rfl, ?_⟩)) (h := ?_)
       rotate_left
       ·intro w; go_simp; try with_reducible rfl
       try simp only [Act.put, List.setIfInBounds_toArray, List.set_cons_zero, List.set_cons_succ, Array.replicate]
       refine rA [4, 6] (h := ?_)
       refine cA (h := fun K hK => ?_) (hs := ?_)
       ·go_simp
        refine hK _ _ ?_
        clear hK K
        try simp only [Act.put, List.setIfInBounds_toArray, List.set_cons_zero, List.set_cons_succ, Array.replicate]
        refine rA [6] (h := ?_)
        refine cA (h := fun K hK => ?_) (hs := ?_)
        ·go_simp; go_at_call 37; with_reducible refine (clone_any _ q _ O4.out.sh HQL.out).mono ?_; rintro e w5 ⟨v5, rfl, ho5, hb5⟩; try go_simp; have R5 := Lib.hid (R4.out.keep hb5); have h25 := Row.cell R5.out 2; simp only [KepC, List.getElem?_cons_succ, List.getElem?_cons_zero] at h25; have HO5 := Lib.hid ho5; have B5 := Lib.hid hb5; clear ho5 hb5; obtain ⟨x5, c5, rfl, -⟩ := HO5.out.sh.open
         refine hK _ _ ?_
         clear hK K
         try simp only [Act.put, List.setIfInBounds_toArray, List.set_cons_zero, List.set_cons_succ, Array.replicate]
         refine rA [7] (h := ?_)
         refine cA (h := fun K hK => ?_) (hs := ?_)
         ·go_simp
          refine hK _ _ ?_
          clear hK K
          try simp only [Act.put, List.setIfInBounds_toArray, List.set_cons_zero, List.set_cons_succ, Array.replicate]
          refine rA [8] (h := ?_)
          refine cA (h := fun K hK => ?_) (hs := ?_)
          ·refine step_app_bss rfl (.tmp 64) (.tmp 67) rfl rfl ((OR4.out.below B5.out).below (balloc (Below.refl _ _) _)) rfl (Own1.lit _ 27 [_]).shows ((HO5.out.mono (Nat.zero_le _)).alloc _) rfl (by have := HRL.out; omega) (by have := B5.out.size; have := HS24.out; simp; omega) ?_; intro v6 w6 ho6 hb6; generalize hrq : R ++ [q] = RQ at *; have HRQ := Lib.hid hrq; clear hrq; have R6 := Lib.hid (Row.below (Row.alloc R5.out _) hb6 HH2.out); have hf6 := Row.frozen R6.out 2; have hc6 := Row.cell R6.out 2; simp only [KepC, List.getElem?_cons_succ, List.getElem?_cons_zero] at hc6; obtain ⟨x6, c6, rfl, -⟩ := ho6.bss.open; have O6 := Lib.hid ho6; have B6 := Lib.hid hb6; clear ho6 hb6
           refine hK _ _ ?_
           clear hK K
           try simp only [Act.put, List.setIfInBounds_toArray, List.set_cons_zero, List.set_cons_succ, Array.replicate]
           refine tA (i := 9) (v := ?_) (y := (Or.inl ⟨by rfl, ?_⟩)) (h := ?_)
           rotate_left
           ·intro w; go_simp; try with_reducible rfl
           try simp only [Act.put, List.setIfInBounds_toArray, List.set_cons_zero, List.set_cons_succ, Array.replicate]
           refine tA (i := 10) (v := ?_) (y := (Or.inl ⟨by rfl, ?_⟩)) (h := ?_)
           rotate_left
           ·intro w; go_simp; try with_reducible rfl
           try simp only [Act.put, List.setIfInBounds_toArray, List.set_cons_zero, List.set_cons_succ, Array.replicate]
           refine rA [11] (h := ?_)
           refine cA (h := fun K hK => ?_) (hs := ?_)
           ·go_simp
            refine hK _ _ ?_
            clear hK K
            try simp only [Act.put, List.setIfInBounds_toArray, List.set_cons_zero, List.set_cons_succ, Array.replicate]
            refine wpAny_done (by kernel_rfl) ?_ _
            have R7 : Row (w6.setCell ⟨h, 2, none⟩ (.slice x6 RQ.length c6)) h 31 (KepC has sv (.slice x6 RQ.length c6) n) := Row.set R6.out 2 _
            have U7 : Upd h w6 (w6.setCell ⟨h, 2, none⟩ (.slice x6 RQ.length c6)) := Upd.set h 2 w6 _
            generalize w6.setCell ⟨h, 2, none⟩ (.slice x6 RQ.length c6) = w7 at *
            have h37 := Row.cell R7 3
            have hf7 := Row.frozen R7 3
            simp only [KepC, List.getElem?_cons_succ, List.getElem?_cons_zero] at h37
            have HR7 := Lib.hid R7
            have HU7 := Lib.hid U7
            have hwn := HWN.out
            clear R7 U7
            go_wp2_with (first
             | (go_at_call 42; refine (Sizef_any _ _).mono ?_; rw [HSZ.out]; rintro e w9 ⟨rfl, rfl⟩; have hwa := HWA.out))
            have R8 : Row (w7.setCell ⟨h, 3, none⟩ (.int .u64 ((n + 1 : Nat) : Int))) h 31 (KepC has sv (.slice x6 RQ.length c6) (n + 1)) := Row.set HR7.out 3 _
            have U8 : Upd h w7 (w7.setCell ⟨h, 3, none⟩ (.int .u64 ((n + 1 : Nat) : Int))) := Upd.set h 3 w7 _
            exact ⟨⟨j + 1, a + fl, RQ, n + 1, _, by omega, by go_num, by rfl, R8, U8.bos (HU7.out.bos O6.out R6.out (by decide) (by decide)) HR7.out (by decide) (by decide), (((HU4.out.trans (Upd.of_below (balloc B5.out _))).thenBelow B6.out).trans HU7.out).trans U8, HTT.out, by omega, by have := HFLB.out; omega, by rw [← HRQ.out]; simp; omega⟩, by simp [intOf]; omega⟩
           exact AllReady.nil
          exact AllReady.nil
         exact AllReady.nil
        exact AllReady.nil
       refine cA (h := fun K hK => ?_) (hs := ?_)
       ·go_simp; go_at_call 37; with_reducible refine (clone_any _ q _ O4.out.sh HQL.out).mono ?_; rintro e w5 ⟨v5, rfl, ho5, hb5⟩; try go_simp; have R5 := Lib.hid (R4.out.keep hb5); have h25 := Row.cell R5.out 2; simp only [KepC, List.getElem?_cons_succ, List.getElem?_cons_zero] at h25; have HO5 := Lib.hid ho5; have B5 := Lib.hid hb5; clear ho5 hb5; obtain ⟨x5, c5, rfl, -⟩ := HO5.out.sh.open
        refine hK _ _ ?_
        clear hK K
        try simp only [Act.put, List.setIfInBounds_toArray, List.set_cons_zero, List.set_cons_succ, Array.replicate]
        refine rA [4, 7] (h := ?_)
        refine cA (h := fun K hK => ?_) (hs := ?_)
        ·go_simp
         refine hK _ _ ?_
         clear hK K
         try simp only [Act.put, List.setIfInBounds_toArray, List.set_cons_zero, List.set_cons_succ, Array.replicate]
         refine rA [7] (h := ?_)
         refine cA (h := fun K hK => ?_) (hs := ?_)
         ·go_simp
          refine hK _ _ ?_
          clear hK K
          try simp only [Act.put, List.setIfInBounds_toArray, List.set_cons_zero, List.set_cons_succ, Array.replicate]
          refine rA [8] (h := ?_)
          refine cA (h := fun K hK => ?_) (hs := ?_)
          ·refine step_app_bss rfl (.tmp 64) (.tmp 67) rfl rfl ((OR4.out.below B5.out).below (balloc (Below.refl _ _) _)) rfl (Own1.lit _ 27 [_]).shows ((HO5.out.mono (Nat.zero_le _)).alloc _) rfl (by have := HRL.out; omega) (by have := B5.out.size; have := HS24.out; simp; omega) ?_; intro v6 w6 ho6 hb6; generalize hrq : R ++ [q] = RQ at *; have HRQ := Lib.hid hrq; clear hrq; have R6 := Lib.hid (Row.below (Row.alloc R5.out _) hb6 HH2.out); have hf6 := Row.frozen R6.out 2; have hc6 := Row.cell R6.out 2; simp only [KepC, List.getElem?_cons_succ, List.getElem?_cons_zero] at hc6; obtain ⟨x6, c6, rfl, -⟩ := ho6.bss.open; have O6 := Lib.hid ho6; have B6 := Lib.hid hb6; clear ho6 hb6
           refine hK _ _ ?_
           clear hK K
           try simp only [Act.put, List.setIfInBounds_toArray, List.set_cons_zero, List.set_cons_succ, Array.replicate]
           refine tA (i := 9) (v := ?_) (y := (Or.inl ⟨by rfl, ?_⟩)) (h := ?_)
           rotate_left
           ·intro w; go_simp; try with_reducible rfl
           try simp only [Act.put, List.setIfInBounds_toArray, List.set_cons_zero, List.set_cons_succ, Array.replicate]
           refine tA (i := 10) (v := ?_) (y := (Or.inl ⟨by rfl, ?_⟩)) (h := ?_)
           rotate_left
           ·intro w; go_simp; try with_reducible rfl
           try simp only [Act.put, List.setIfInBounds_toArray, List.set_cons_zero, List.set_cons_succ, Array.replicate]
           refine rA [11] (h := ?_)
           refine cA (h := fun K hK => ?_) (hs := ?_)
           ·go_simp
            refine hK _ _ ?_
            clear hK K
            try simp only [Act.put, List.setIfInBounds_toArray, List.set_cons_zero, List.set_cons_succ, Array.replicate]
            refine wpAny_done (by kernel_rfl) ?_ _
            have R7 : Row (w6.setCell ⟨h, 2, none⟩ (.slice x6 RQ.length c6)) h 31 (KepC has sv (.slice x6 RQ.length c6) n) := Row.set R6.out 2 _
            have U7 : Upd h w6 (w6.setCell ⟨h, 2, none⟩ (.slice x6 RQ.length c6)) := Upd.set h 2 w6 _
            generalize w6.setCell ⟨h, 2, none⟩ (.slice x6 RQ.length c6) = w7 at *
            have h37 := Row.cell R7 3
            have hf7 := Row.frozen R7 3
            simp only [KepC, List.getElem?_cons_succ, List.getElem?_cons_zero] at h37
            have HR7 := Lib.hid R7
            have HU7 := Lib.hid U7
            have hwn := HWN.out
            clear R7 U7
            go_wp2_with (first
             | (go_at_call 42; refine (Sizef_any _ _).mono ?_; rw [HSZ.out]; rintro e w9 ⟨rfl, rfl⟩; have hwa := HWA.out))
            have R8 : Row (w7.setCell ⟨h, 3, none⟩ (.int .u64 ((n + 1 : Nat) : Int))) h 31 (KepC has sv (.slice x6 RQ.length c6) (n + 1)) := Row.set HR7.out 3 _
            have U8 : Upd h w7 (w7.setCell ⟨h, 3, none⟩ (.int .u64 ((n + 1 : Nat) : Int))) := Upd.set h 3 w7 _
            exact ⟨⟨j + 1, a + fl, RQ, n + 1, _, by omega, by go_num, by rfl, R8, U8.bos (HU7.out.bos O6.out R6.out (by decide) (by decide)) HR7.out (by decide) (by decide), (((HU4.out.trans (Upd.of_below (balloc B5.out _))).thenBelow B6.out).trans HU7.out).trans U8, HTT.out, by omega, by have := HFLB.out; omega, by rw [← HRQ.out]; simp; omega⟩, by simp [intOf]; omega⟩
           exact AllReady.nil
          exact AllReady.nil
         exact AllReady.nil
        refine cA (h := fun K hK => ?_) (hs := ?_)
        ·go_simp
         refine hK _ _ ?_
         clear hK K
         try simp only [Act.put, List.setIfInBounds_toArray, List.set_cons_zero, List.set_cons_succ, Array.replicate]
         refine rA [4] (h := ?_)
         refine cA (h := fun K hK => ?_) (hs := ?_)
         ·have h2a := Row.cell (Row.alloc R5.out (.cells #[.slice x5 q.length c5] 27)) 2; simp only [KepC, List.getElem?_cons_succ, List.getElem?_cons_zero] at h2a; go_simp
          refine hK _ _ ?_
          clear hK K
          try simp only [Act.put, List.setIfInBounds_toArray, List.set_cons_zero, List.set_cons_succ, Array.replicate]
          refine rA [8] (h := ?_)
          refine cA (h := fun K hK => ?_) (hs := ?_)
          ·refine step_app_bss rfl (.tmp 64) (.tmp 67) rfl rfl ((OR4.out.below B5.out).below (balloc (Below.refl _ _) _)) rfl (Own1.lit _ 27 [_]).shows ((HO5.out.mono (Nat.zero_le _)).alloc _) rfl (by have := HRL.out; omega) (by have := B5.out.size; have := HS24.out; simp; omega) ?_; intro v6 w6 ho6 hb6; generalize hrq : R ++ [q] = RQ at *; have HRQ := Lib.hid hrq; clear hrq; have R6 := Lib.hid (Row.below (Row.alloc R5.out _) hb6 HH2.out); have hf6 := Row.frozen R6.out 2; have hc6 := Row.cell R6.out 2; simp only [KepC, List.getElem?_cons_succ, List.getElem?_cons_zero] at hc6; obtain ⟨x6, c6, rfl, -⟩ := ho6.bss.open; have O6 := Lib.hid ho6; have B6 := Lib.hid hb6; clear ho6 hb6
           refine hK _ _ ?_
           clear hK K
           try simp only [Act.put, List.setIfInBounds_toArray, List.set_cons_zero, List.set_cons_succ, Array.replicate]
           refine tA (i := 9) (v := ?_) (y := (Or.inl ⟨by rfl, ?_⟩)) (h := ?_)
           rotate_left
           ·intro w; go_simp; try with_reducible rfl
           try simp only [Act.put, List.setIfInBounds_toArray, List.set_cons_zero, List.set_cons_succ, Array.replicate]
           refine tA (i := 10) (v := ?_) (y := (Or.inl ⟨by rfl, ?_⟩)) (h := ?_)
           rotate_left
           ·intro w; go_simp; try with_reducible rfl
           try simp only [Act.put, List.setIfInBounds_toArray, List.set_cons_zero, List.set_cons_succ, Array.replicate]
           refine rA [11] (h := ?_)
           refine cA (h := fun K hK => ?_) (hs := ?_)
           ·go_simp
            refine hK _ _ ?_
            clear hK K
            try simp only [Act.put, List.setIfInBounds_toArray, List.set_cons_zero, List.set_cons_succ, Array.replicate]
            refine wpAny_done (by kernel_rfl) ?_ _
            have R7 : Row (w6.setCell ⟨h, 2, none⟩ (.slice x6 RQ.length c6)) h 31 (KepC has sv (.slice x6 RQ.length c6) n) := Row.set R6.out 2 _
            have U7 : Upd h w6 (w6.setCell ⟨h, 2, none⟩ (.slice x6 RQ.length c6)) := Upd.set h 2 w6 _
            generalize w6.setCell ⟨h, 2, none⟩ (.slice x6 RQ.length c6) = w7 at *
            have h37 := Row.cell R7 3
            have hf7 := Row.frozen R7 3
            simp only [KepC, List.getElem?_cons_succ, List.getElem?_cons_zero] at h37
            have HR7 := Lib.hid R7
            have HU7 := Lib.hid U7
            have hwn := HWN.out
            clear R7 U7
            go_wp2_with (first
             | (go_at_call 42; refine (Sizef_any _ _).mono ?_; rw [HSZ.out]; rintro e w9 ⟨rfl, rfl⟩; have hwa := HWA.out))
            have R8 : Row (w7.setCell ⟨h, 3, none⟩ (.int .u64 ((n + 1 : Nat) : Int))) h 31 (KepC has sv (.slice x6 RQ.length c6) (n + 1)) := Row.set HR7.out 3 _
            have U8 : Upd h w7 (w7.setCell ⟨h, 3, none⟩ (.int .u64 ((n + 1 : Nat) : Int))) := Upd.set h 3 w7 _
            exact ⟨⟨j + 1, a + fl, RQ, n + 1, _, by omega, by go_num, by rfl, R8, U8.bos (HU7.out.bos O6.out R6.out (by decide) (by decide)) HR7.out (by decide) (by decide), (((HU4.out.trans (Upd.of_below (balloc B5.out _))).thenBelow B6.out).trans HU7.out).trans U8, HTT.out, by omega, by have := HFLB.out; omega, by rw [← HRQ.out]; simp; omega⟩, by simp [intOf]; omega⟩
           exact AllReady.nil
          exact AllReady.nil
         exact AllReady.nil
        exact AllReady.nil
       exact AllReady.nil
      ·have hnI : ¬ (n : Int) < (first : Int) := by omega
       clear hTn hlf2
       go_upto_region 12 with (go_at_call 41; refine (Take_any _ d _ HOU.out.sh (by omega)).mono ?_; rw [HTK.out, HQE.out]; rintro e w3 ⟨v3, rfl, ho3, hb3⟩; have R3 := Lib.hid (HR2.out.keep hb3); have h2 := Row.cell R3.out 2; have h3 := Row.cell R3.out 3; simp only [KepC, List.getElem?_cons_succ, List.getElem?_cons_zero] at h2 h3; have O3 := Lib.hid ho3; have B3 := Lib.hid hb3; clear ho3 hb3)
       have R4 := Lib.hid (Row.drew R3.out)
       have O4 := Lib.hid (O3.out.below (Below.refl _ _).drew)
       have OR4 := Lib.hid ((HO.out.below B3.out).below (Below.refl _ _).drew)
       have HU4 := Lib.hid (HU.out.trans (Upd.of_below B3.out.drew))
       have HS24 := Lib.hid (Nat.le_trans HU.out.sizeLe (Nat.le_trans B3.out.size (Below.refl w3.heap.size w3).drew.size))
       have HH2 := Lib.hid (R1d.out.lt)
       have HRL := Lib.hid hRl
       clear h2 h3 R3 B3
       refine wp_region_any (by kernel_rfl) ?_
       try (change wpAny _ _ _ _ _ _ _ (World.drew _))
       generalize World.drew w3 = w4 at *
       have h24 := Row.cell R4.out 2; simp only [KepC, List.getElem?_cons_succ, List.getElem?_cons_zero] at h24
       refine tA (i := 0) (v := ?_) (y := (Or.inl ⟨by rfl, ?_⟩)) (h := ?_)
       rotate_left
       ·intro w; go_simp; try with_reducible rfl
       try simp only [Act.put, List.setIfInBounds_toArray, List.set_cons_zero, List.set_cons_succ, Array.replicate]
       refine tA (i := 1) (v := ?_) (y := (Or.inl ⟨by rfl, ?_⟩)) (h := ?_)
       rotate_left
       ·intro w; go_simp; try with_reducible rfl
       try simp only [Act.put, List.setIfInBounds_toArray, List.set_cons_zero, List.set_cons_succ, Array.replicate]
       refine tA (i := 2) (v := ?_) (y := (Or.inl ⟨by rfl, ?_⟩)) (h := ?_)
       rotate_left
       ·intro w; go_simp; try with_reducible rfl
       try simp only [Act.put, List.setIfInBounds_toArray, List.set_cons_zero, List.set_cons_succ, Array.replicate]
       refine tA (i := 3) (v := ?_) (y := (Or.inl ⟨by rfl, ?_⟩)) (h := ?_)
       rotate_left
       ·intro w; go_simp; try with_reducible rfl
       try simp only [Act.put, List.setIfInBounds_toArray, List.set_cons_zero, List.set_cons_succ, Array.replicate]
       refine tA (i := 5) (v := ?_) (y := (Or.inl ⟨by rfl, ?_⟩)) (h := ?_)
       rotate_left
       ·intro w; go_simp; try with_reducible rfl
       try simp only [Act.put, List.setIfInBounds_toArray, List.set_cons_zero, List.set_cons_succ, Array.replicate]
       refine rA [4, 6] (h := ?_)
       refine cA (h := fun K hK => ?_) (hs := ?_)
       ·go_simp
        refine hK _ _ ?_
        clear hK K
        try simp only [Act.put, List.setIfInBounds_toArray, List.set_cons_zero, List.set_cons_succ, Array.replicate]
        refine rA [6] (h := ?_)
        refine cA (h := fun K hK => ?_) (hs := ?_)
        ·go_simp; go_at_call 37; with_reducible refine (clone_any _ q _ O4.out.sh HQL.out).mono ?_; rintro e w5 ⟨v5, rfl, ho5, hb5⟩; try go_simp; have R5 := Lib.hid (R4.out.keep hb5); have h25 := Row.cell R5.out 2; simp only [KepC, List.getElem?_cons_succ, List.getElem?_cons_zero] at h25; have HO5 := Lib.hid ho5; have B5 := Lib.hid hb5; clear ho5 hb5; obtain ⟨x5, c5, rfl, -⟩ := HO5.out.sh.open
         refine hK _ _ ?_
         clear hK K
         try simp only [Act.put, List.setIfInBounds_toArray, List.set_cons_zero, List.set_cons_succ, Array.replicate]
         refine rA [7] (h := ?_)
         refine cA (h := fun K hK => ?_) (hs := ?_)
         ·go_simp
          refine hK _ _ ?_
          clear hK K
          try simp only [Act.put, List.setIfInBounds_toArray, List.set_cons_zero, List.set_cons_succ, Array.replicate]
          refine rA [8] (h := ?_)
          refine cA (h := fun K hK => ?_) (hs := ?_)
          ·refine step_app_bss rfl (.tmp 64) (.tmp 67) rfl rfl ((OR4.out.below B5.out).below (balloc (Below.refl _ _) _)) rfl (Own1.lit _ 27 [_]).shows ((HO5.out.mono (Nat.zero_le _)).alloc _) rfl (by have := HRL.out; omega) (by have := B5.out.size; have := HS24.out; simp; omega) ?_; intro v6 w6 ho6 hb6; generalize hrq : R ++ [q] = RQ at *; have HRQ := Lib.hid hrq; clear hrq; have R6 := Lib.hid (Row.below (Row.alloc R5.out _) hb6 HH2.out); have hf6 := Row.frozen R6.out 2; have hc6 := Row.cell R6.out 2; simp only [KepC, List.getElem?_cons_succ, List.getElem?_cons_zero] at hc6; obtain ⟨x6, c6, rfl, -⟩ := ho6.bss.open; have O6 := Lib.hid ho6; have B6 := Lib.hid hb6; clear ho6 hb6
           refine hK _ _ ?_
           clear hK K
           try simp only [Act.put, List.setIfInBounds_toArray, List.set_cons_zero, List.set_cons_succ, Array.replicate]
           refine tA (i := 9) (v := ?_) (y := (Or.inl ⟨by rfl, ?_⟩)) (h := ?_)
           rotate_left
           ·intro w; go_simp; try with_reducible rfl
           try simp only [Act.put, List.setIfInBounds_toArray, List.set_cons_zero, List.set_cons_succ, Array.replicate]
           refine tA (i := 10) (v := ?_) (y := (Or.inl ⟨by rfl, ?_⟩)) (h := ?_)
           rotate_left
           ·intro w; go_simp; try with_reducible rfl
           try simp only [Act.put, List.setIfInBounds_toArray, List.set_cons_zero, List.set_cons_succ, Array.replicate]
           refine rA [11] (h := ?_)
           refine cA (h := fun K hK => ?_) (hs := ?_)
           ·go_simp
            refine hK _ _ ?_
            clear hK K
            try simp only [Act.put, List.setIfInBounds_toArray, List.set_cons_zero, List.set_cons_succ, Array.replicate]
            refine wpAny_done (by kernel_rfl) ?_ _
            have R7 : Row (w6.setCell ⟨h, 2, none⟩ (.slice x6 RQ.length c6)) h 31 (KepC has sv (.slice x6 RQ.length c6) n) := Row.set R6.out 2 _
            have U7 : Upd h w6 (w6.setCell ⟨h, 2, none⟩ (.slice x6 RQ.length c6)) := Upd.set h 2 w6 _
            generalize w6.setCell ⟨h, 2, none⟩ (.slice x6 RQ.length c6) = w7 at *
            have h37 := Row.cell R7 3
            have hf7 := Row.frozen R7 3
            simp only [KepC, List.getElem?_cons_succ, List.getElem?_cons_zero] at h37
            have HR7 := Lib.hid R7
            have HU7 := Lib.hid U7
            have hwn := HWN.out
            clear R7 U7
            go_wp2_with (first
             | (go_at_call 42; refine (Sizef_any _ _).mono ?_; rw [HSZ.out]; rintro e w9 ⟨rfl, rfl⟩; have hwa := HWA.out))
            have R8 : Row (w7.setCell ⟨h, 3, none⟩ (.int .u64 ((n + 1 : Nat) : Int))) h 31 (KepC has sv (.slice x6 RQ.length c6) (n + 1)) := Row.set HR7.out 3 _
            have U8 : Upd h w7 (w7.setCell ⟨h, 3, none⟩ (.int .u64 ((n + 1 : Nat) : Int))) := Upd.set h 3 w7 _
            exact ⟨⟨j + 1, a + fl, RQ, n + 1, _, by omega, by go_num, by rfl, R8, U8.bos (HU7.out.bos O6.out R6.out (by decide) (by decide)) HR7.out (by decide) (by decide), (((HU4.out.trans (Upd.of_below (balloc B5.out _))).thenBelow B6.out).trans HU7.out).trans U8, HTT.out, by omega, by have := HFLB.out; omega, by rw [← HRQ.out]; simp; omega⟩, by simp [intOf]; omega⟩
           exact AllReady.nil
          exact AllReady.nil
         exact AllReady.nil
        exact AllReady.nil
       refine cA (h := fun K hK => ?_) (hs := ?_)
       ·go_simp; go_at_call 37; with_reducible refine (clone_any _ q _ O4.out.sh HQL.out).mono ?_; rintro e w5 ⟨v5, rfl, ho5, hb5⟩; try go_simp; have R5 := Lib.hid (R4.out.keep hb5); have h25 := Row.cell R5.out 2; simp only [KepC, List.getElem?_cons_succ, List.getElem?_cons_zero] at h25; have HO5 := Lib.hid ho5; have B5 := Lib.hid hb5; clear ho5 hb5; obtain ⟨x5, c5, rfl, -⟩ := HO5.out.sh.open
        refine hK _ _ ?_
        clear hK K
        try simp only [Act.put, List.setIfInBounds_toArray, List.set_cons_zero, List.set_cons_succ, Array.replicate]
        refine rA [4, 7] (h := ?_)
        refine cA (h := fun K hK => ?_) (hs := ?_)
        ·go_simp
         refine hK _ _ ?_
         clear hK K
         try simp only [Act.put, List.setIfInBounds_toArray, List.set_cons_zero, List.set_cons_succ, Array.replicate]
         refine rA [7] (h := ?_)
         refine cA (h := fun K hK => ?_) (hs := ?_)
         ·go_simp
          refine hK _ _ ?_
          clear hK K
          try simp only [Act.put, List.setIfInBounds_toArray, List.set_cons_zero, List.set_cons_succ, Array.replicate]
          refine rA [8] (h := ?_)
          refine cA (h := fun K hK => ?_) (hs := ?_)
          ·refine step_app_bss rfl (.tmp 64) (.tmp 67) rfl rfl ((OR4.out.below B5.out).below (balloc (Below.refl _ _) _)) rfl (Own1.lit _ 27 [_]).shows ((HO5.out.mono (Nat.zero_le _)).alloc _) rfl (by have := HRL.out; omega) (by have := B5.out.size; have := HS24.out; simp; omega) ?_; intro v6 w6 ho6 hb6; generalize hrq : R ++ [q] = RQ at *; have HRQ := Lib.hid hrq; clear hrq; have R6 := Lib.hid (Row.below (Row.alloc R5.out _) hb6 HH2.out); have hf6 := Row.frozen R6.out 2; have hc6 := Row.cell R6.out 2; simp only [KepC, List.getElem?_cons_succ, List.getElem?_cons_zero] at hc6; obtain ⟨x6, c6, rfl, -⟩ := ho6.bss.open; have O6 := Lib.hid ho6; have B6 := Lib.hid hb6; clear ho6 hb6
           refine hK _ _ ?_
           clear hK K
           try simp only [Act.put, List.setIfInBounds_toArray, List.set_cons_zero, List.set_cons_succ, Array.replicate]
           refine tA (i := 9) (v := ?_) (y := (Or.inl ⟨by rfl, ?_⟩)) (h := ?_)
           rotate_left
           ·intro w; go_simp; try with_reducible rfl
           try simp only [Act.put, List.setIfInBounds_toArray, List.set_cons_zero, List.set_cons_succ, Array.replicate]
           refine tA (i := 10) (v := ?_) (y := (Or.inl ⟨by rfl, ?_⟩)) (h := ?_)
           rotate_left
           ·intro w; go_simp; try with_reducible rfl
           try simp only [Act.put, List.setIfInBounds_toArray, List.set_cons_zero, List.set_cons_succ, Array.replicate]
           refine rA [11] (h := ?_)
           refine cA (h := fun K hK => ?_) (hs := ?_)
           ·go_simp
            refine hK _ _ ?_
            clear hK K
            try simp only [Act.put, List.setIfInBounds_toArray, List.set_cons_zero, List.set_cons_succ, Array.replicate]
            refine wpAny_done (by kernel_rfl) ?_ _
            have R7 : Row (w6.setCell ⟨h, 2, none⟩ (.slice x6 RQ.length c6)) h 31 (KepC has sv (.slice x6 RQ.length c6) n) := Row.set R6.out 2 _
            have U7 : Upd h w6 (w6.setCell ⟨h, 2, none⟩ (.slice x6 RQ.length c6)) := Upd.set h 2 w6 _
            generalize w6.setCell ⟨h, 2, none⟩ (.slice x6 RQ.length c6) = w7 at *
            have h37 := Row.cell R7 3
            have hf7 := Row.frozen R7 3
            simp only [KepC, List.getElem?_cons_succ, List.getElem?_cons_zero] at h37
            have HR7 := Lib.hid R7
            have HU7 := Lib.hid U7
            have hwn := HWN.out
            clear R7 U7
            go_wp2_with (first
             | (go_at_call 42; refine (Sizef_any _ _).mono ?_; rw [HSZ.out]; rintro e w9 ⟨rfl, rfl⟩; have hwa := HWA.out))
            have R8 : Row (w7.setCell ⟨h, 3, none⟩ (.int .u64 ((n + 1 : Nat) : Int))) h 31 (KepC has sv (.slice x6 RQ.length c6) (n + 1)) := Row.set HR7.out 3 _
            have U8 : Upd h w7 (w7.setCell ⟨h, 3, none⟩ (.int .u64 ((n + 1 : Nat) : Int))) := Upd.set h 3 w7 _
            exact ⟨⟨j + 1, a + fl, RQ, n + 1, _, by omega, by go_num, by rfl, R8, U8.bos (HU7.out.bos O6.out R6.out (by decide) (by decide)) HR7.out (by decide) (by decide), (((HU4.out.trans (Upd.of_below (balloc B5.out _))).thenBelow B6.out).trans HU7.out).trans U8, HTT.out, by omega, by have := HFLB.out; omega, by rw [← HRQ.out]; simp; omega⟩, by simp [intOf]; omega⟩
           exact AllReady.nil
          exact AllReady.nil
         exact AllReady.nil
        refine cA (h := fun K hK => ?_) (hs := ?_)
        ·go_simp
         refine hK _ _ ?_
         clear hK K
         try simp only [Act.put, List.setIfInBounds_toArray, List.set_cons_zero, List.set_cons_succ, Array.replicate]
         refine rA [4] (h := ?_)
         refine cA (h := fun K hK => ?_) (hs := ?_)
         ·have h2a := Row.cell (Row.alloc R5.out (.cells #[.slice x5 q.length c5] 27)) 2; simp only [KepC, List.getElem?_cons_succ, List.getElem?_cons_zero] at h2a; go_simp
          refine hK _ _ ?_
          clear hK K
          try simp only [Act.put, List.setIfInBounds_toArray, List.set_cons_zero, List.set_cons_succ, Array.replicate]
          refine rA [8] (h := ?_)
          refine cA (h := fun K hK => ?_) (hs := ?_)
          ·refine step_app_bss rfl (.tmp 64) (.tmp 67) rfl rfl ((OR4.out.below B5.out).below (balloc (Below.refl _ _) _)) rfl (Own1.lit _ 27 [_]).shows ((HO5.out.mono (Nat.zero_le _)).alloc _) rfl (by have := HRL.out; omega) (by have := B5.out.size; have := HS24.out; simp; omega) ?_; intro v6 w6 ho6 hb6; generalize hrq : R ++ [q] = RQ at *; have HRQ := Lib.hid hrq; clear hrq; have R6 := Lib.hid (Row.below (Row.alloc R5.out _) hb6 HH2.out); have hf6 := Row.frozen R6.out 2; have hc6 := Row.cell R6.out 2; simp only [KepC, List.getElem?_cons_succ, List.getElem?_cons_zero] at hc6; obtain ⟨x6, c6, rfl, -⟩ := ho6.bss.open; have O6 := Lib.hid ho6; have B6 := Lib.hid hb6; clear ho6 hb6
           refine hK _ _ ?_
           clear hK K
           try simp only [Act.put, List.setIfInBounds_toArray, List.set_cons_zero, List.set_cons_succ, Array.replicate]
           refine tA (i := 9) (v := ?_) (y := (Or.inl ⟨by rfl, ?_⟩)) (h := ?_)
           rotate_left
           ·intro w; go_simp; try with_reducible rfl
           try simp only [Act.put, List.setIfInBounds_toArray, List.set_cons_zero, List.set_cons_succ, Array.replicate]
           refine tA (i := 10) (v := ?_) (y := (Or.inl ⟨by rfl, ?_⟩)) (h := ?_)
           rotate_left
           ·intro w; go_simp; try with_reducible rfl
           try simp only [Act.put, List.setIfInBounds_toArray, List.set_cons_zero, List.set_cons_succ, Array.replicate]
           refine rA [11] (h := ?_)
           refine cA (h := fun K hK => ?_) (hs := ?_)
           ·go_simp
            refine hK _ _ ?_
            clear hK K
            try simp only [Act.put, List.setIfInBounds_toArray, List.set_cons_zero, List.set_cons_succ, Array.replicate]
            refine wpAny_done (by kernel_rfl) ?_ _
            have R7 : Row (w6.setCell ⟨h, 2, none⟩ (.slice x6 RQ.length c6)) h 31 (KepC has sv (.slice x6 RQ.length c6) n) := Row.set R6.out 2 _
            have U7 : Upd h w6 (w6.setCell ⟨h, 2, none⟩ (.slice x6 RQ.length c6)) := Upd.set h 2 w6 _
            generalize w6.setCell ⟨h, 2, none⟩ (.slice x6 RQ.length c6) = w7 at *
            have h37 := Row.cell R7 3
            have hf7 := Row.frozen R7 3
            simp only [KepC, List.getElem?_cons_succ, List.getElem?_cons_zero] at h37
            have HR7 := Lib.hid R7
            have HU7 := Lib.hid U7
            have hwn := HWN.out
            clear R7 U7
            go_wp2_with (first
             | (go_at_call 42; refine (Sizef_any _ _).mono ?_; rw [HSZ.out]; rintro e w9 ⟨rfl, rfl⟩; have hwa := HWA.out))
            have R8 : Row (w7.setCell ⟨h, 3, none⟩ (.int .u64 ((n + 1 : Nat) : Int))) h 31 (KepC has sv (.slice x6 RQ.length c6) (n + 1)) := Row.set HR7.out 3 _
            have U8 : Upd h w7 (w7.setCell ⟨h, 3, none⟩ (.int .u64 ((n + 1 : Nat) : Int))) := Upd.set h 3 w7 _
            exact ⟨⟨j + 1, a + fl, RQ, n + 1, _, by omega, by go_num, by rfl, R8, U8.bos (HU7.out.bos O6.out R6.out (by decide) (by decide)) HR7.out (by decide) (by decide), (((HU4.out.trans (Upd.of_below (balloc B5.out _))).thenBelow B6.out).trans HU7.out).trans U8, HTT.out, by omega, by have := HFLB.out; omega, by rw [← HRQ.out]; simp; omega⟩, by simp [intOf]; omega⟩
           exact AllReady.nil
          exact AllReady.nil
         exact AllReady.nil
        exact AllReady.nil
       exact AllReady.nil
     ·skip
      have hT := HREC.out
      rw [if_neg (by simp), if_neg hTn, if_neg hne] at hT
      have HTT := Lib.hid hT.symm
      have hneI : ¬ (n : Int) = (nx : Int) := by omega
      clear hT HREC hne
      by_cases hlf2 : n < first
      ·have hnI : (n : Int) < (first : Int) := by omega
       have hR0I : ¬ (R.length : Int) = 0 := by omega
       clear hTn hlf2
       go_wp2_with (go_at_call 41; refine (Take_any _ d _ HOU.out.sh (by omega)).mono ?_; rw [HTK.out, HQE.out]; rintro e w3 ⟨v3, rfl, ho3, hb3⟩; have R3 := Lib.hid (HR2.out.keep hb3); have h2 := Row.cell R3.out 2; have h3 := Row.cell R3.out 3; simp only [KepC, List.getElem?_cons_succ, List.getElem?_cons_zero] at h2 h3; have O3 := Lib.hid ho3; have B3 := Lib.hid hb3; clear ho3 hb3)
       go_ret
       rw [HTT.out]
       exact ⟨_, rfl, R3.out, (HO.out.below B3.out).mono hsb, HU2.out.trans (Upd.of_below B3.out)⟩
      ·have hnI : ¬ (n : Int) < (first : Int) := by omega
       clear hTn hlf2
       go_wp2_with (go_at_call 41; refine (Take_any _ d _ HOU.out.sh (by omega)).mono ?_; rw [HTK.out, HQE.out]; rintro e w3 ⟨v3, rfl, ho3, hb3⟩; have R3 := Lib.hid (HR2.out.keep hb3); have h2 := Row.cell R3.out 2; have h3 := Row.cell R3.out 3; simp only [KepC, List.getElem?_cons_succ, List.getElem?_cons_zero] at h2 h3; have O3 := Lib.hid ho3; have B3 := Lib.hid hb3; clear ho3 hb3)
       go_ret
       rw [HTT.out]
       exact ⟨_, rfl, R3.out, (HO.out.below B3.out).mono hsb, HU2.out.trans (Upd.of_below B3.out)⟩
   ·have hT : T = (a, R, nx) := by
     have := HREC.out
     rw [if_pos (by simpa using hE)] at this
     exact this.symm
    have hEI : ¬ (E : Int) = 0 := by omega
    have HTT := Lib.hid hT
    obtain ⟨xr, cr, rfl, -, -, -⟩ := HO.out.bss.open
    clear hT hE HREC ha hj hnx
    go_wp2_with (go_at_call 41; refine (Take_any _ d _ HOU.out.sh (by omega)).mono ?_; rw [HTK.out, HQE.out]; rintro e w3 ⟨v3, rfl, ho3, hb3⟩; have R3 := Lib.hid (HR2.out.keep hb3); have h2 := Row.cell R3.out 2; have h3 := Row.cell R3.out 3; simp only [KepC, List.getElem?_cons_succ, List.getElem?_cons_zero] at h2 h3; have O3 := Lib.hid ho3; have B3 := Lib.hid hb3; clear ho3 hb3)
    go_ret
    rw [HTT.out]
    exact ⟨_, rfl, R3.out, (HO.out.below B3.out).mono hsb, HU2.out.trans (Upd.of_below B3.out)⟩
  ·obtain rfl : j = S.1.length := by omega
   rw [List.drop_length] at hrec
   have hT : T = (a, R, nx) := hrec.symm
   have HTT := Lib.hid hT
   have hsb := B1d.out.size
   clear hrec hT
   go_wp2_with fail
   go_ret
   rw [HTT.out]
   exact ⟨_, rfl, HR2.out, HO.out.mono hsb, (Upd.of_below (p := h) B1d.out).trans HU.out⟩
end Go.Proofs.Ytkghkpkiodghiaa
