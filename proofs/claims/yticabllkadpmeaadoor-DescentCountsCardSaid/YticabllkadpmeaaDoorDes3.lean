/- Package descent: Missing, Behind. (printed by gen/des3.py) -/
import Derived.Test.YticabllkadpmeaaDoorDes2
import Derived.Test.YticabllkadpmeaaDoorBelG
import Derived.Test.YticabllkadpmeaaDoorRng
import Derived.Test.YticabllkadpmeaaDoorSrt
namespace Go.Proofs.YticabllkadpmeaaDoor
set_option linter.unusedVariables false
set_option linter.unusedSimpArgs false
set_option linter.unnecessarySimpa false
open Go.RowKit Go.Shelf
open Tre (It)
set_option maxRecDepth 100000
set_option maxHeartbeats 8000000
attribute [local go_sem] Oper.semAt_some

theorem three (w : World) (x y : Value) (n : Value) : ∃ W, ((w.alloc (.cells #[x] 26)).alloc (.cells #[n] 31)).alloc (.cells #[y] 26) = W ∧ Row W w.heap.size 26 [x] ∧ Row W (w.heap.size + 1) 31 [n] ∧ Row W (w.heap.size + 2) 26 [y] ∧ Below w.heap.size w W ∧ W.heap.size = w.heap.size + 3 := by
  refine ⟨_, rfl, ?_, ?_, ?_, ?_, ?_⟩
  · exact ((Row.new w 26 [x]).keep ((Below.refl _ _).alloc (Nat.le_refl _) _)).keep ((Below.refl _ _).alloc (Nat.le_refl _) _)
  · have := (Row.new (w.alloc (.cells #[x] 26)) 31 [n]).keep ((Below.refl _ _).alloc (Nat.le_refl _) (.cells #[y] 26))
    rwa [World.size_alloc] at this
  · have := Row.new ((w.alloc (.cells #[x] 26)).alloc (.cells #[n] 31)) 26 [y]
    rwa [World.size_alloc, World.size_alloc] at this
  · exact (((Below.refl _ w).alloc (Nat.le_refl _) _).alloc (by simp) _).alloc (by simp; omega) _
  · simp
theorem field_len (z : It) (w : World) : (Instr.field 35 (.agg (itC z).toArray) 1).run Tryd.prog w = .ok (.int .u64 (z.len : Int)) w := by kernel_rfl
theorem missing_any (w : World) (D1 D2 bm bt : Nat) (TM TT : TS) (A C : List It) (hg : Glob w) (hm : Tr w D1 bm TM) (hmA : IsT TM A) (hokA : Oks A) (ht : Tr w D2 bt TT) (htC : IsT TT C) (hokC : NmOk C) :
    Calls Tryd.prog 12 #[.pointer (some ⟨bm, 0, none⟩), .pointer (some ⟨bt, 0, none⟩)] w fun e w' => e = .returned (.int .u64 (Tre.missF A (Tre.leaves C 16) : Int)) ∧ Below w.heap.size w w' := by
  have hz3 := hg.1
  obtain ⟨bs, hbs⟩ : ∃ bs, w.heap.size = bs := ⟨_, rfl⟩
  obtain ⟨W3, hW3, r0, r1, r2, hb3, hz⟩ := three w (.pointer (some ⟨bm, 0, none⟩)) (.pointer (some ⟨bt, 0, none⟩)) (.int .u64 0)
  have GM := Lib.hid hg
  have TM0 := Lib.hid hm
  have IM := Lib.hid hmA
  have OA := Lib.hid hokA
  have OC := Lib.hid hokC
  have SEQ := Lib.hid (givesI _ D2 bt TT C W3 r2 (ht.below hb3 (Nat.le_refl _)) htC hokC.oks)
  rw [hbs] at r0 r1 r2 hb3 hz SEQ
  have R0 := Lib.hid r0
  have R1 := Lib.hid r1
  have B3 := Lib.hid hb3
  have HZ := Lib.hid hz
  have HBS := Lib.hid hbs
  clear hg hm hmA hokA ht htC hokC r0 r1 r2 hb3 hz
  refine (callsIn_wide (n := 3)).1 ?_
  refine callsIn_of_wp_marks Tryd.func12 rfl trivial ?_ rfl
  simp only [Tryd.ntmps12, List.size_toArray, List.length_cons, List.length_nil, Nat.reduceAdd, Nat.reduceSub, Array.replicate_succ, Array.replicate_zero, List.push_toArray, List.append_toArray, List.nil_append, List.cons_append]
  gi_wp2_with (first
    | (refine ⟨trivial, (callsIn_wide.2 (some_some _ _)).mono ?_⟩; rintro e w1 ⟨rfl, rfl⟩)
    | (refine ⟨trivial, (callsIn_wide.2 (items_any bt _)).mono ?_⟩; rintro e w1 ⟨rfl, rfl⟩))
  have hbs3 : bs ≤ W3.heap.size := by have := HZ.out; omega
  refine wpIn_range2 (S := Sd) (gf := 45) (lb := #[.pointer (some ⟨bs + 2, 0, none⟩)]) rfl (enters_of Tryd.func45 (by kernel_rfl) rfl) SEQ.out (Below.refl _ _) rfl (fun k v A B h _ => h)
    (fun k W' => Row W' bs 26 [.pointer (some ⟨bm, 0, none⟩)] ∧ Row W' (bs + 1) 31 [.int .u64 (Tre.missF A ((Tre.leaves C 16).take k) : Int)] ∧ Below bs w W')
    (fun k v a1 W' => ∃ g, a1 = ⟨#[.pointer (some ⟨bm, 0, none⟩), .pointer (some ⟨bt, 0, none⟩), .pointer (some ⟨bs, 0, none⟩), undef, .int .u64 0, .pointer (some ⟨bs + 1, 0, none⟩), .pointer (some ⟨g, 0, none⟩), undef, .pointer (some ⟨bm, 0, none⟩), .pointer (some ⟨bm, 0, none⟩), .pointer (some ⟨bt, 0, none⟩), .pointer (some ⟨bt, 0, none⟩), .pointer (some ⟨bt, 0, none⟩), .func (.func 45) #[] #[.pointer (some ⟨bs + 2, 0, none⟩)], v, undef, undef, undef, undef, undef, undef, undef, undef, undef, undef, undef, undef, undef, undef, undef, undef, undef, undef, undef], []⟩ ∧ Row W' g 35 (itC ((Tre.leaves C 16).getD k dIt)))
    (fun k v a A B h hc => by obtain ⟨g, h1, h2⟩ := h; exact ⟨g, h1, h2.cel hc⟩)
    (fun k A B h hc hb => ⟨h.1.cel hc, h.2.1.cel hc, h.2.2.trans (hb.mono hbs3)⟩) ⟨R0.out, by exact R1.out, B3.out⟩ ?assign ?body ?done
  case assign =>
    intro n' l' k v W' K hk hI hG hK
    have hxm : (Tre.leaves C 16).getD k dIt ∈ Tre.leaves C 16 := by simp [List.getD, List.getElem?_eq_getElem hk]
    have hxo := (OC.out _ ((Tre.leaves_perm C).mem_iff.1 hxm)).1
    subst hG
    generalize (Tre.leaves C 16).getD k dIt = x at *
    obtain ⟨hz0, W6, hW6, hr6, hb6⟩ := pre34 W' x hxo
    dsimp only at hW6 hz0
    have HZ0 := Lib.hid hz0
    have R6 := Lib.hid hr6
    have B6 := Lib.hid hb6
    have HI := Lib.hid hI
    have HXO := Lib.hid hxo
    have HK : Hid (∀ a1 W1, Below W'.heap.size W' W1 → (Row W1 bs 26 [.pointer (some ⟨bm, 0, none⟩)] ∧ Row W1 (bs + 1) 31 [.int .u64 (Tre.missF A ((Tre.leaves C 16).take k) : Int)] ∧ Below bs w W1) → (∃ g, a1 = ⟨#[.pointer (some ⟨bm, 0, none⟩), .pointer (some ⟨bt, 0, none⟩), .pointer (some ⟨bs, 0, none⟩), undef, .int .u64 0, .pointer (some ⟨bs + 1, 0, none⟩), .pointer (some ⟨g, 0, none⟩), undef, .pointer (some ⟨bm, 0, none⟩), .pointer (some ⟨bm, 0, none⟩), .pointer (some ⟨bt, 0, none⟩), .pointer (some ⟨bt, 0, none⟩), .pointer (some ⟨bt, 0, none⟩), .func (.func 45) #[] #[.pointer (some ⟨bs + 2, 0, none⟩)], itV' x, undef, undef, undef, undef, undef, undef, undef, undef, undef, undef, undef, undef, undef, undef, undef, undef, undef, undef, undef], []⟩ ∧ Row W1 g 35 (itC x)) → K a1 W1) := hK
    unfold itV'
    clear hz0 hr6 hb6 hI hxo hxm hK SEQ R0 R1 B3 HZ HBS hW3
    gi_wp2_with (with_reducible refine store_item_in rfl (.tmp 6) (.tmp 14) rfl W'.heap.size 0 rfl x rfl HXO.out 35 (itC dIt) HZ0.out (by decide) ?_; rw [hW6])
    have hbI := HI.out.2.2.size
    exact HK.out _ W6 B6.out ⟨HI.out.1.keep B6.out, HI.out.2.1.keep B6.out, HI.out.2.2.trans (B6.out.mono (by omega))⟩ ⟨W'.heap.size, rfl, R6.out⟩
  case body =>
    intro n' l' k v a1 W' hk hI hRR
    obtain ⟨g, rfl, hrow⟩ := hRR
    obtain ⟨hr0, hr1, hb⟩ := hI
    have hxm : (Tre.leaves C 16).getD k dIt ∈ Tre.leaves C 16 := by simp [List.getD, List.getElem?_eq_getElem hk]
    have hxo := OC.out _ ((Tre.leaves_perm C).mem_iff.1 hxm)
    have hnx : Tre.missF A ((Tre.leaves C 16).take (k + 1)) = if (Tre.haveOf A ((Tre.leaves C 16).getD k dIt).name).len < ((Tre.leaves C 16).getD k dIt).len then Tre.satStep 4611686018427387903 (Tre.missF A ((Tre.leaves C 16).take k)) (((Tre.leaves C 16).getD k dIt).len - (Tre.haveOf A ((Tre.leaves C 16).getD k dIt).name).len) else Tre.missF A ((Tre.leaves C 16).take k) := by rw [take_snocI _ _ hk, Tre.missF_snoc]
    have hml := Tre.missF_le A ((Tre.leaves C 16).take k)
    have HNX := Lib.hid hnx
    generalize (Tre.leaves C 16).getD k dIt = x at *
    generalize Tre.missF A ((Tre.leaves C 16).take k) = m at *
    have hc0 : W'.cell? ⟨bs, 0, none⟩ = some (.pointer (some ⟨bm, 0, none⟩)) := Row.cell hr0 0
    have hcn : W'.cell? ⟨bs + 1, 0, none⟩ = some (.int .u64 (m : Int)) := Row.cell hr1 0
    have hx0 : W'.cell? ⟨g, 0, none⟩ = some (.string x.name) := Row.cell hrow 0
    have hx1 : W'.cell? ⟨g, 1, none⟩ = some (.int .u64 (x.len : Int)) := Row.cell hrow 1
    have hxn := hxo.2
    have hxl := hxo.1.1
    have RA0 := Lib.hid hr0
    have RA1 := Lib.hid hr1
    have RX := Lib.hid hrow
    have BW := Lib.hid hb
    have hbsw : bs ≤ W'.heap.size := by have := hb.size; have := HBS.out; omega
    have GW := Lib.hid (Glob.below GM.out (by rw [HBS.out]; exact hb) hz3)
    have TW := Lib.hid (TM0.out.below hb (by rw [HBS.out]; exact Nat.le_refl _))
    obtain ⟨z, hz⟩ : ∃ z, Tre.haveOf A x.name = z := ⟨_, rfl⟩
    have hzo : ItOk z := by rw [← hz]; exact haveOf_ok OA.out _ hxn
    have hzl := hzo.1
    rw [hz] at HNX
    have HZV := Lib.hid hz
    have hfl := field_len z
    clear hxm hxo hnx hr0 hr1 hrow hb hz hzo SEQ R0 R1 B3 HZ hW3
    gi_wp2_with (refine ⟨trivial, noDepth' _, ?_⟩; gi_at_call 18; refine (CallsIn.inRound l' (callsIn_wide.2 (have_any _ D1 bm TM A x.name GW.out TW.out IM.out OA.out hxn))).mono ?_; rw [HZV.out]; rintro e w5 ⟨rfl, hb5⟩; have q0 := bkeep hb5 hc0; have q1 := bkeep hb5 hcn; have q2 := bkeep hb5 hx1; have qf := Row.frozen (RA1.out.keep hb5) 0; have B5 := Lib.hid hb5; clear hb5)
    all_goals
      have hk1 : Kpt Sd W' w5 := Kpt.of_below B5.out
      have row1 := RA1.out.keep B5.out
      have row0 := RA0.out.keep B5.out
      have bw5 := BW.out.trans (B5.out.mono hbsw)
      have hnx := HNX.out
      first
        | (rw [if_neg (by omega)] at hnx; refine ⟨hk1, row0, ?_, bw5⟩; rw [hnx]; exact row1)
        | (rw [if_pos (by omega)] at hnx
           unfold Tre.satStep at hnx
           have hk2 := Kpt.setCell (S := Sd) (j := 0) row1 (by unfold Sd; decide)
           refine ⟨hk1.trans (hk2 _), row0.kd (hk2 _) sd_ptr, ?_, bw5.setCell (p := ⟨bs + 1, 0, none⟩) (Nat.le_succ _) _⟩
           have := row1.set 0 (.int .u64 (Tre.missF A ((Tre.leaves C 16).take (k + 1)) : Int))
           rw [hnx] at this ⊢
           refine Eq.trans ?_ this
           congr 4
           omega)
  case done =>
    intro D W' hD hI hK
    rw [List.take_length] at hI
    have hcn : W'.cell? ⟨bs + 1, 0, none⟩ = some (.int .u64 (Tre.missF A (Tre.leaves C 16) : Int)) := Row.cell hI.2.1 0
    have HB := Lib.hid hI.2.2
    have hDs : bs ≤ D := by omega
    clear hI SEQ R0 R1 B3 HZ hW3
    gi_wp2
    refine ⟨by simp, .inl ⟨_, _, rfl, run_takeDeferred hK, ?_⟩⟩
    refine ⟨_, results_tmp rfl _ _ _, rfl, ?_⟩
    rw [HBS.out]
    exact HB.out.grown (grownBy_putObj' W' D _) (by have := HB.out.size; have := HBS.out; omega) (fun j e => by cases e; omega)

/-! ### Behind -/
theorem info_str : (Tryd.prog.info? 9).map (fun i => (i.zero, i.size, i.bytes)) = some (some (.string .empty), 1, 16) := by kernel_rfl
theorem strs_len (ss : List ByteArray) : (strs ss).length = ss.length := by simp [strs]
theorem three' (w : World) (x y n : Value) : ∃ W, ((w.alloc (.cells #[x] 26)).alloc (.cells #[n] 30)).alloc (.cells #[y] 26) = W ∧ Row W w.heap.size 26 [x] ∧ Row W (w.heap.size + 1) 30 [n] ∧ Row W (w.heap.size + 2) 26 [y] ∧ Below w.heap.size w W ∧ W.heap.size = w.heap.size + 3 := by
  refine ⟨_, rfl, ?_, ?_, ?_, ?_, ?_⟩
  · exact ((Row.new w 26 [x]).keep ((Below.refl _ _).alloc (Nat.le_refl _) _)).keep ((Below.refl _ _).alloc (Nat.le_refl _) _)
  · have := (Row.new (w.alloc (.cells #[x] 26)) 30 [n]).keep ((Below.refl _ _).alloc (Nat.le_refl _) (.cells #[y] 26))
    rwa [World.size_alloc] at this
  · have := Row.new ((w.alloc (.cells #[x] 26)).alloc (.cells #[n] 30)) 26 [y]
    rwa [World.size_alloc, World.size_alloc] at this
  · exact (((Below.refl _ w).alloc (Nat.le_refl _) _).alloc (by simp) _).alloc (by simp; omega) _
  · simp
/-- Of which items there is less. -/
def lessP (A : List It) (x : It) : Bool := decide ((Tre.haveOf A x.name).len < x.len)
def namesF (A L : List It) : List ByteArray := (L.filter (lessP A)).map It.name
theorem namesF_snoc (A L : List It) (x : It) : namesF A (L ++ [x]) = namesF A L ++ (if (Tre.haveOf A x.name).len < x.len then [x.name] else []) := by
  unfold namesF
  rw [List.filter_append, List.map_append]
  congr 1
  rw [List.filter_cons, List.filter_nil]
  unfold lessP
  split <;> rename_i h <;> simp at h <;> simp [h]
theorem namesF_length (A L : List It) : (namesF A L).length ≤ L.length := by unfold namesF; rw [List.length_map]; exact List.length_filter_le _ _
theorem leaves_length (C : List It) : (Tre.leaves C 16).length = C.length := (Tre.leaves_perm C).length_eq
theorem names_sort (A : List It) {C : List It} (hr : Tre.Rise C) : ((namesF A (Tre.leaves C 16)).map (·.data.toList)).mergeSort (fun x y => decide (x ≤ y)) = (namesF A C).map (·.data.toList) := by
  have := Tre.behind_eq hr (lessP A)
  unfold namesF
  rw [List.map_map, List.map_map]
  exact this
theorem behind_any (w : World) (D1 D2 bm bt : Nat) (TM TT : TS) (A C : List It) (hg : Glob w) (hm : Tr w D1 bm TM) (hmA : IsT TM A) (hokA : Oks A) (ht : Tr w D2 bt TT) (htC : IsT TT C) (hokC : NmOk C) (hCl : C.length ≤ 1000000) :
    Calls Tryd.prog 15 #[.pointer (some ⟨bm, 0, none⟩), .pointer (some ⟨bt, 0, none⟩)] w fun e w' => ∃ v', e = .returned v' ∧ ShS w' v' (namesF A C) ∧ Below w.heap.size w w' := by
  have hz3 := hg.1
  obtain ⟨bs, hbs⟩ : ∃ bs, w.heap.size = bs := ⟨_, rfl⟩
  obtain ⟨W3, hW3, r0, r1, r2, hb3, hz⟩ := three' w (.pointer (some ⟨bm, 0, none⟩)) (.pointer (some ⟨bt, 0, none⟩)) (.slice none 0 0)
  have GM := Lib.hid hg
  have TM0 := Lib.hid hm
  have IM := Lib.hid hmA
  have OA := Lib.hid hokA
  have OC := Lib.hid hokC
  have NS := Lib.hid (names_sort A htC.rise)
  have HCL : Hid ((Tre.leaves C 16).length ≤ 1000000) := by show _ ≤ _; rw [leaves_length]; exact hCl
  have SEQ := Lib.hid (givesI _ D2 bt TT C W3 r2 (ht.below hb3 (Nat.le_refl _)) htC hokC.oks)
  rw [hbs] at r0 r1 r2 hb3 hz SEQ
  have R0 := Lib.hid r0
  have R1 := Lib.hid r1
  have B3 := Lib.hid hb3
  have HZ := Lib.hid hz
  have HBS := Lib.hid hbs
  clear hg hm hmA hokA ht htC hokC r0 r1 r2 hb3 hz
  refine (callsIn_wide (n := 3)).1 ?_
  refine callsIn_of_wp_marks Tryd.func15 rfl trivial ?_ rfl
  simp only [Tryd.ntmps15, List.size_toArray, List.length_cons, List.length_nil, Nat.reduceAdd, Nat.reduceSub, Array.replicate_succ, Array.replicate_zero, List.push_toArray, List.append_toArray, List.nil_append, List.cons_append]
  gi_wp2_with (first
    | (refine ⟨trivial, (callsIn_wide.2 (some_some _ _)).mono ?_⟩; rintro e w1 ⟨rfl, rfl⟩)
    | (refine ⟨trivial, (callsIn_wide.2 (items_any bt _)).mono ?_⟩; rintro e w1 ⟨rfl, rfl⟩))
  have hbs3 : bs ≤ W3.heap.size := by have := HZ.out; omega
  refine wpIn_range2 (S := Sd) (gf := 45) (lb := #[.pointer (some ⟨bs + 2, 0, none⟩)]) rfl (enters_of Tryd.func45 (by kernel_rfl) rfl) SEQ.out (Below.refl _ _) rfl (fun k v A B h _ => h)
    (fun k W' => Row W' bs 26 [.pointer (some ⟨bm, 0, none⟩)] ∧ (∃ u, Row W' (bs + 1) 30 [u] ∧ OwnS W' bs u (namesF A ((Tre.leaves C 16).take k))) ∧ Below bs w W')
    (fun k v a1 W' => ∃ g, a1 = ⟨#[.pointer (some ⟨bm, 0, none⟩), .pointer (some ⟨bt, 0, none⟩), .pointer (some ⟨bs, 0, none⟩), undef, .slice none 0 0, .pointer (some ⟨bs + 1, 0, none⟩), .pointer (some ⟨g, 0, none⟩), .pointer (some ⟨bm, 0, none⟩), .pointer (some ⟨bm, 0, none⟩), .pointer (some ⟨bt, 0, none⟩), .pointer (some ⟨bt, 0, none⟩), .pointer (some ⟨bt, 0, none⟩), .func (.func 45) #[] #[.pointer (some ⟨bs + 2, 0, none⟩)], v, undef, undef, undef, undef, undef, undef, undef, undef, undef, undef, undef, undef, undef, undef, undef, undef], []⟩ ∧ Row W' g 35 (itC ((Tre.leaves C 16).getD k dIt)))
    (fun k v a A B h hc => by obtain ⟨g, h1, h2⟩ := h; exact ⟨g, h1, h2.cel hc⟩)
    (fun k A B h hc hb => by obtain ⟨h1, ⟨u, h2, h3⟩, h4⟩ := h; exact ⟨h1.cel hc, ⟨u, h2.cel hc, own_cel h3 hc⟩, h4.trans (hb.mono hbs3)⟩) ⟨R0.out, ⟨_, R1.out, World.ownsRow_nil _ _ _ _⟩, B3.out⟩ ?assign ?body ?done
  case assign =>
    intro n' l' k v W' K hk hI hG hK
    have hxm : (Tre.leaves C 16).getD k dIt ∈ Tre.leaves C 16 := by simp [List.getD, List.getElem?_eq_getElem hk]
    have hxo := (OC.out _ ((Tre.leaves_perm C).mem_iff.1 hxm)).1
    subst hG
    generalize (Tre.leaves C 16).getD k dIt = x at *
    obtain ⟨hz0, W6, hW6, hr6, hb6⟩ := pre34 W' x hxo
    dsimp only at hW6 hz0
    have HZ0 := Lib.hid hz0
    have R6 := Lib.hid hr6
    have B6 := Lib.hid hb6
    have HI := Lib.hid hI
    have HXO := Lib.hid hxo
    have HK : Hid (∀ a1 W1, Below W'.heap.size W' W1 → (Row W1 bs 26 [.pointer (some ⟨bm, 0, none⟩)] ∧ (∃ u, Row W1 (bs + 1) 30 [u] ∧ OwnS W1 bs u (namesF A ((Tre.leaves C 16).take k))) ∧ Below bs w W1) → (∃ g, a1 = ⟨#[.pointer (some ⟨bm, 0, none⟩), .pointer (some ⟨bt, 0, none⟩), .pointer (some ⟨bs, 0, none⟩), undef, .slice none 0 0, .pointer (some ⟨bs + 1, 0, none⟩), .pointer (some ⟨g, 0, none⟩), .pointer (some ⟨bm, 0, none⟩), .pointer (some ⟨bm, 0, none⟩), .pointer (some ⟨bt, 0, none⟩), .pointer (some ⟨bt, 0, none⟩), .pointer (some ⟨bt, 0, none⟩), .func (.func 45) #[] #[.pointer (some ⟨bs + 2, 0, none⟩)], itV' x, undef, undef, undef, undef, undef, undef, undef, undef, undef, undef, undef, undef, undef, undef, undef, undef], []⟩ ∧ Row W1 g 35 (itC x)) → K a1 W1) := hK
    unfold itV'
    clear hz0 hr6 hb6 hI hxo hxm hK SEQ R0 R1 B3 HZ HBS hW3
    gi_wp2_with (with_reducible refine store_item_in rfl (.tmp 6) (.tmp 13) rfl W'.heap.size 0 rfl x rfl HXO.out 35 (itC dIt) HZ0.out (by decide) ?_; rw [hW6])
    have hbI := HI.out.2.2.size
    obtain ⟨h1, ⟨u, h2, h3⟩, h4⟩ := HI.out
    exact HK.out _ W6 B6.out ⟨h1.keep B6.out, ⟨u, h2.keep B6.out, own_cel h3 (Cel.of_below B6.out)⟩, h4.trans (B6.out.mono (by omega))⟩ ⟨W'.heap.size, rfl, R6.out⟩
  case body =>
    intro n' l' k v a1 W' hk hI hRR
    obtain ⟨g, rfl, hrow⟩ := hRR
    obtain ⟨hr0, ⟨u, hr1, hou⟩, hb⟩ := hI
    obtain ⟨ua, un, uc, rfl⟩ := own_form1 hou
    have hmix : Tryd.prog.follows .mixedOrders = true := by kernel_rfl
    have hxm : (Tre.leaves C 16).getD k dIt ∈ Tre.leaves C 16 := by simp [List.getD, List.getElem?_eq_getElem hk]
    have hxo := OC.out _ ((Tre.leaves_perm C).mem_iff.1 hxm)
    have hnx : namesF A ((Tre.leaves C 16).take (k + 1)) = namesF A ((Tre.leaves C 16).take k) ++ (if (Tre.haveOf A ((Tre.leaves C 16).getD k dIt).name).len < ((Tre.leaves C 16).getD k dIt).len then [((Tre.leaves C 16).getD k dIt).name] else []) := by rw [take_snocI _ _ hk, namesF_snoc]
    have hml := namesF_length A ((Tre.leaves C 16).take k)
    rw [List.length_take] at hml
    have HML : Hid ((namesF A ((Tre.leaves C 16).take k)).length ≤ 1000000) := by have := HCL.out; show _ ≤ _; omega
    have HNX := Lib.hid hnx
    generalize (Tre.leaves C 16).getD k dIt = x at *
    generalize namesF A ((Tre.leaves C 16).take k) = V at *
    have hc0 : W'.cell? ⟨bs, 0, none⟩ = some (.pointer (some ⟨bm, 0, none⟩)) := Row.cell hr0 0
    have hcn : W'.cell? ⟨bs + 1, 0, none⟩ = some (.slice ua un uc) := Row.cell hr1 0
    have hx0 : W'.cell? ⟨g, 0, none⟩ = some (.string x.name) := Row.cell hrow 0
    have hx1 : W'.cell? ⟨g, 1, none⟩ = some (.int .u64 (x.len : Int)) := Row.cell hrow 1
    have hxn := hxo.2
    have hxl := hxo.1.1
    have RA0 := Lib.hid hr0
    have RA1 := Lib.hid hr1
    have OU := Lib.hid hou
    have RX := Lib.hid hrow
    have BW := Lib.hid hb
    have hbsw : bs ≤ W'.heap.size := by have := hb.size; have := HBS.out; omega
    have GW := Lib.hid (Glob.below GM.out (by rw [HBS.out]; exact hb) hz3)
    have TW := Lib.hid (TM0.out.below hb (by rw [HBS.out]; exact Nat.le_refl _))
    obtain ⟨z, hz⟩ : ∃ z, Tre.haveOf A x.name = z := ⟨_, rfl⟩
    have hzo : ItOk z := by rw [← hz]; exact haveOf_ok OA.out _ hxn
    have hzl := hzo.1
    rw [hz] at HNX
    have HZV := Lib.hid hz
    have hfl := field_len z
    clear hml hxm hxo hnx hr0 hr1 hou hrow hb hz hzo SEQ R0 R1 B3 HZ hW3
    by_cases hlt : z.len < x.len
    · have hltI : (z.len : Int) < (x.len : Int) := by omega
      have hnx := HNX.out
      rw [if_pos hlt] at hnx
      have HNX2 := Lib.hid hnx
      clear hnx HNX
      gi_wp2
      refine Code.wpIn_mono (Q := fun e a w => e = .normal ∧ a = ⟨#[.pointer (some ⟨bm, 0, none⟩), .pointer (some ⟨bt, 0, none⟩), .pointer (some ⟨bs, 0, none⟩), undef, .slice none 0 0, .pointer (some ⟨bs + 1, 0, none⟩), .pointer (some ⟨g, 0, none⟩), .pointer (some ⟨bm, 0, none⟩), .pointer (some ⟨bm, 0, none⟩), .pointer (some ⟨bt, 0, none⟩), .pointer (some ⟨bt, 0, none⟩), .pointer (some ⟨bt, 0, none⟩), .func (.func 45) #[] #[.pointer (some ⟨bs + 2, 0, none⟩)], v, .pointer (some ⟨bm, 0, none⟩), .pointer (some ⟨g, 0, none⟩), .string x.name, .agg (itC z).toArray, .int .u64 (z.len : Int), .pointer (some ⟨g, 1, none⟩), .int .u64 (x.len : Int), .bool true, undef, undef, undef, undef, undef, undef, undef, undef], []⟩ ∧ Below W'.heap.size W' w) (fun e a w5 h => ?_) ?_
      rotate_left
      · gi_region_with_o (refine ⟨trivial, noDepth' _, ?_⟩; gi_at_call 18; refine (CallsIn.inRound l' (callsIn_wide.2 (have_any _ D1 bm TM A x.name (Glob.below GW.out ((Below.refl _ _).drew) (by have := GW.out.1; omega)) (TW.out.below ((Below.refl _ _).drew) (Nat.le_refl _)) IM.out OA.out hxn))).mono ?_; rw [HZV.out]; rintro e w5 ⟨rfl, hb5⟩; have hb50 : Below W'.heap.size W' w5 := (Below.refl W'.heap.size W').drew.trans hb5; have q0 := bkeep hb50 hc0; have q1 := bkeep hb50 hcn; have q2 := bkeep hb50 hx1; have q3 := bkeep hb50 hx0; have qf := Row.frozen (RA1.out.keep hb50) 0; have B5 := Lib.hid hb50; clear hb5 hb50)
        all_goals exact ⟨rfl, rfl, B5.out⟩
      obtain ⟨rfl, rfl, hb5⟩ := h
      have q0 := bkeep hb5 hc0
      have q1 := bkeep hb5 hcn
      have q3 := bkeep hb5 hx0
      have qf := Row.frozen (RA1.out.keep hb5) 0
      have B5 := Lib.hid hb5
      clear hb5 hc0 hcn hx0 hx1
      obtain ⟨Wn, hWn⟩ : ∃ Wn, w5.alloc (.cells #[.string x.name] 9) = Wn := ⟨_, rfl⟩
      have hbn : Below w5.heap.size w5 Wn := by rw [← hWn]; exact (Below.refl _ _).alloc (Nat.le_refl _) _
      have hnews : ∀ j q, ([.string x.name] : List Value)[j]? = some q → Wn.cell? ((⟨w5.heap.size, 0, none⟩ : Addr).add j) = some q := fun j q hq => by
        rw [Addr.add_lit, Nat.zero_add, ← hWn, Row.cell (Row.new w5 9 [.string x.name]) j]; exact hq
      have HN := Lib.hid hnews
      have HBn := Lib.hid (B5.out.trans (hbn.mono B5.out.size))
      have H1 : Hid (OwnS Wn bs (.slice ua un uc) V) := own_cel OU.out (Cel.of_below HBn.out)
      have HRn := Lib.hid (RA1.out.keep HBn.out)
      have hrl := RA1.out.lt
      have hwn := HBn.out.size
      have hw5 := B5.out.size
      obtain ⟨i0, hi0, hz0, hz1, hz2⟩ := info_parts info_str
      have HI0 := Lib.hid hi0
      have HZ0 := Lib.hid hz0
      have HZ1 := Lib.hid hz1
      have HZ2 := Lib.hid hz2
      clear hbn hnews hi0 hz0 hz1 hz2
      gi_wp2_with (gi_at_builtin; refine wpListIn_append_own _ rfl (.tmp 22) (.tmp 25) 30 rfl bs 9 i0 (.string .empty) 1 16 Tryd.underlying30 HI0.out HZ0.out HZ1.out HZ2.out rfl (by decide) (.slice ua un uc) V.length (strs V) rfl H1.out ⟨w5.heap.size, 0, none⟩ 1 1 [.string x.name] rfl rfl HN.out (by intro q hq; simp at hq; subst hq; rfl) (by have := HML.out; unfold maxLen; omega) (by have := HML.out; omega) (by omega) ?_; intro v3 w3 ho3 hg3 _; obtain ⟨a3, n3, c3, hv3⟩ := own_form1 ho3; subst hv3; have hr3 : Row w3 (bs + 1) 30 [.slice ua un uc] := (hg3.block (bs + 1) (by omega) (own_apart H1.out HRn.out (by decide))).trans HRn.out; have hc3 := Row.cell hr3 0; have hf3 := Row.frozen hr3 0; have HO3 := Lib.hid ho3; have HG3 := Lib.hid hg3; have HR3 := Lib.hid hr3; simp only [List.getElem?_cons_zero] at hc3; clear ho3 hg3 hr3)
      have hk1 : Kpt Sd W' Wn := Kpt.of_below HBn.out
      have hk2 : Kpt Sd Wn w3 := Kpt.grown HG3.out (own_block H1.out) (by unfold Sd; decide)
      have hk3 : Kpt Sd w3 (w3.setCell ⟨bs + 1, 0, none⟩ (.slice a3 n3 c3)) := Kpt.setCell HR3.out (by unfold Sd; decide) _
      refine ⟨hk1.trans (hk2.trans hk3), ((RA0.out.keep HBn.out).kd hk2 sd_ptr).kd hk3 sd_ptr, ⟨.slice a3 n3 c3, HR3.out.set 0 _, ?_⟩, ?_⟩
      · rw [HNX2.out]
        have h4 := own_setBox (u := .slice a3 n3 c3) HO3.out HR3.out (by decide)
        unfold OwnS
        rw [strs_append, List.length_append]
        exact h4
      · exact ((BW.out.trans (HBn.out.mono hbsw)).grown HG3.out (by have := HBn.out.size; omega) (fun k hk => (World.ownsRow.lt H1.out k hk).1)).setCell (p := ⟨bs + 1, 0, none⟩) (Nat.le_succ _) _
    · have hltI : ¬ (z.len : Int) < (x.len : Int) := by omega
      have hnx := HNX.out
      rw [if_neg hlt, List.append_nil] at hnx
      have HNX2 := Lib.hid hnx
      clear hnx HNX
      gi_wp2
      refine Code.wpIn_mono (Q := fun e a w => e = .normal ∧ a = ⟨#[.pointer (some ⟨bm, 0, none⟩), .pointer (some ⟨bt, 0, none⟩), .pointer (some ⟨bs, 0, none⟩), undef, .slice none 0 0, .pointer (some ⟨bs + 1, 0, none⟩), .pointer (some ⟨g, 0, none⟩), .pointer (some ⟨bm, 0, none⟩), .pointer (some ⟨bm, 0, none⟩), .pointer (some ⟨bt, 0, none⟩), .pointer (some ⟨bt, 0, none⟩), .pointer (some ⟨bt, 0, none⟩), .func (.func 45) #[] #[.pointer (some ⟨bs + 2, 0, none⟩)], v, .pointer (some ⟨bm, 0, none⟩), .pointer (some ⟨g, 0, none⟩), .string x.name, .agg (itC z).toArray, .int .u64 (z.len : Int), .pointer (some ⟨g, 1, none⟩), .int .u64 (x.len : Int), .bool false, undef, undef, undef, undef, undef, undef, undef, undef], []⟩ ∧ Below W'.heap.size W' w) (fun e a w5 h => ?_) ?_
      rotate_left
      · gi_region_with_o (refine ⟨trivial, noDepth' _, ?_⟩; gi_at_call 18; refine (CallsIn.inRound l' (callsIn_wide.2 (have_any _ D1 bm TM A x.name (Glob.below GW.out ((Below.refl _ _).drew) (by have := GW.out.1; omega)) (TW.out.below ((Below.refl _ _).drew) (Nat.le_refl _)) IM.out OA.out hxn))).mono ?_; rw [HZV.out]; rintro e w5 ⟨rfl, hb5⟩; have hb50 : Below W'.heap.size W' w5 := (Below.refl W'.heap.size W').drew.trans hb5; have q0 := bkeep hb50 hc0; have q1 := bkeep hb50 hcn; have q2 := bkeep hb50 hx1; have q3 := bkeep hb50 hx0; have qf := Row.frozen (RA1.out.keep hb50) 0; have B5 := Lib.hid hb50; clear hb5 hb50)
        all_goals exact ⟨rfl, rfl, B5.out⟩
      obtain ⟨rfl, rfl, hb5⟩ := h
      have q0 := bkeep hb5 hc0
      have q1 := bkeep hb5 hcn
      have q3 := bkeep hb5 hx0
      have qf := Row.frozen (RA1.out.keep hb5) 0
      have B5 := Lib.hid hb5
      clear hb5 hc0 hcn hx0 hx1
      gi_wp2
      exact ⟨Kpt.of_below B5.out, RA0.out.keep B5.out, ⟨_, RA1.out.keep B5.out, by rw [HNX2.out]; exact own_cel OU.out (Cel.of_below B5.out)⟩, BW.out.trans (B5.out.mono hbsw)⟩
  case done =>
    intro D W' hD hI hK
    rw [List.take_length] at hI
    obtain ⟨h0, ⟨u, h1, h2⟩, hb⟩ := hI
    obtain ⟨ua, un, uc, rfl⟩ := own_form1 h2
    have hcn : W'.cell? ⟨bs + 1, 0, none⟩ = some (.slice ua un uc) := Row.cell h1 0
    have HB := Lib.hid hb
    have H1 := Lib.hid h1
    have H2 := Lib.hid h2
    have HK := Lib.hid hK
    have hDs : bs ≤ D := by omega
    have hbw : bs ≤ W'.heap.size := by have := hb.size; have := HBS.out; omega
    have hwl := h1.lt
    have HNL : Hid ((namesF A (Tre.leaves C 16)).length ≤ 1000000000) := by have := namesF_length A (Tre.leaves C 16); have := HCL.out; show _ ≤ _; omega
    clear h0 h1 h2 hb hK SEQ R0 R1 B3 HZ hW3
    gi_wp2_with (refine ⟨trivial, (callsIn_wide.2 (sort_own W' bs _ (namesF A (Tre.leaves C 16)) (namesF A C) H2.out hbw HNL.out NS.out)).mono ?_⟩; rintro e w5 ⟨rfl, ho5, hb5, hg5⟩; have hr5 : Row w5 (bs + 1) 30 [.slice ua un uc] := (hg5.block (bs + 1) hwl (own_apart H2.out H1.out (by decide))).trans H1.out; have hc5 := Row.cell hr5 0; simp only [List.getElem?_cons_zero] at hc5; have hk5 : w5.heap[D]? = some (.deferred (some [])) := (hg5.block D (Array.getElem?_eq_some_iff.1 HK.out).1 (fun e => by obtain ⟨cs, f, h⟩ := own_block H2.out D e.symm; rw [HK.out] at h; cases h)).trans HK.out; have HK5 := Lib.hid hk5; have O5 := Lib.hid ho5; have B5 := Lib.hid hb5; clear hr5 hk5 ho5 hb5 hg5)
    refine ⟨by simp, .inl ⟨_, _, rfl, run_takeDeferred HK5.out, ?_⟩⟩
    refine ⟨_, results_tmp rfl _ _ _, _, rfl, ?_, ?_⟩
    · exact (OwnS.shS (own_cel O5.out (Cel.putObj _ HK5.out rfl)))
    · rw [HBS.out]
      exact (HB.out.trans B5.out).grown (grownBy_putObj' w5 D _) (by have := B5.out.size; omega) (fun j e => by cases e; omega)
end Go.Proofs.YticabllkadpmeaaDoor
