import Derived.Test.YtgikmhpfkgacjaaPfx4
namespace Go.Proofs.Ytgikmhpfkgacjaa
set_option linter.unusedVariables false
set_option linter.unusedSimpArgs false
set_option linter.unnecessarySimpa false
open Go.RowKit
set_option maxRecDepth 20000

theorem info_string : (Try.prog.info? 9).map (fun i => (i.zero, i.size, i.bytes)) = some (some (.string .empty), 1, 16) := by kernel_rfl

theorem tot_cons (s : ByteArray) (ss : List ByteArray) : tot (s :: ss) = 8 + s.size + tot ss := by simp [tot]
theorem etexts_le (ss : List ByteArray) (h : tot ss < 4611686018427387904) : (ss.flatMap etext).length ≤ tot ss := by
  induction ss with
  | nil => simp [tot]
  | cons s ss ih =>
    rw [tot_cons] at h ⊢
    have := ih (by omega)
    have h2 := nsize_le s.size
    have h3 := enc_length s.size (by omega)
    have h4 : s.data.toList.length = s.size := by rw [Array.length_toList]; rfl
    simp only [List.flatMap_cons, List.length_append, etext]
    omega
theorem tot_get (ss : List ByteArray) (k : Nat) (hk : k < ss.length) : tot (ss.take k) + 8 + (ss.getD k ByteArray.empty).size ≤ tot ss := by
  induction ss generalizing k with
  | nil => simp at hk
  | cons s ss ih =>
    rw [tot_cons]
    cases k with
    | zero => simp [tot]
    | succ k =>
      have := ih k (by simpa using hk)
      rw [List.take_succ_cons, tot_cons]
      simp only [List.getD_cons_succ]
      omega
theorem flat_snoc (ss : List ByteArray) (k : Nat) (hk : k < ss.length) : (ss.take (k + 1)).flatMap etext = (ss.take k).flatMap etext ++ etext (ss.getD k ByteArray.empty) := by
  rw [take_snoc' ss k ByteArray.empty hk]; simp

theorem PutTexts_any (v lv : Value) (l : List UInt8) (ss : List ByteArray) (w : World) (h : Sh w v l) (hs : ShS w lv ss) (hl : l.length + 8 + tot ss ≤ 140737488355328) (hn : ss.length < 4611686018427387904) :
    Calls Try.prog 17 #[v, lv] w fun e w' => ∃ v', e = .returned v' ∧ Own w' w.heap.size 5 v' (l ++ etexts ss) ∧ Below w.heap.size w w' := by
  obtain ⟨x, cap, rfl, g1, g2, g3, g4⟩ := hs.open
  rw [strs_length] at g1 g4 ⊢
  have hel := enc_length ss.length hn
  have hns := nsize_le ss.length
  have HE := Lib.hid hel
  have hul : IntKind.u64.wrap (ss.length : Int) = (ss.length : Int) := IntWalk.u64_in _ ⟨by omega, by omega⟩
  have hnI : (ss.length : Int) < 4611686018427387904 := by omega
  clear hel hs
  go_enter Try.func17, Try.ntmps17
  go_wp2_with (first
    | (go_at_call 27; refine (clone_any v l w h (by omega)).mono ?_; rintro e w1 ⟨v1, rfl, ho1, hb1⟩; have s1 := hb1.size)
    | (go_at_call 28; refine (class_any _ _).mono ?_; rintro e w' ⟨rfl, rfl⟩)
    | (go_at_call 29; refine (put_any v1 l _ w.heap.size _ ho1 s1 (by omega) (by omega) hnI).mono ?_; rintro e w2 ⟨v2, rfl, ho2, hb2⟩))
  have s2 := hb2.size
  have hb12 := hb1.trans hb2
  rw [Int.toNat_natCast] at ho2
  have HO := Lib.hid ho2
  have HB := Lib.hid hb12
  have G4 := Lib.hid g4
  have HF := Lib.hid (etexts_le ss (by omega))
  clear ho2 ho1 hb1 hb2 hb12 g4 g3 h
  go_loopw [0, 19] (fun o i wr => ∃ k : Nat, k ≤ ss.length ∧ i = .int .i64 k ∧ Own wr w.heap.size 5 o (l ++ enc ss.length ++ (ss.take k).flatMap etext) ∧ Below w.heap.size w wr) (fun _ i _ => ss.length - (intOf i).toNat)
  case atStart => exact ⟨0, by omega, rfl, by simpa using HO.out, HB.out⟩
  case round =>
    obtain ⟨k, hk, rfl, hor, hbr⟩ := hrel
    have hsz := hbr.size
    by_cases hlt : k < ss.length
    · obtain ⟨b, off, hx, hc⟩ := (Shows.at' G4.out hbr (Nat.le_refl _)).cells1 (by simp; omega)
      have hck := hc k _ (strs_get ss k hlt)
      have htg := tot_get ss k hlt
      have hfs := flat_snoc ss k hlt
      have HFS := Lib.hid hfs
      have hle := etexts_le (ss.take k) (by omega)
      have hlen : (l ++ enc ss.length ++ (ss.take k).flatMap etext).length + 8 + (ss.getD k ByteArray.empty).size ≤ 140737488355328 := by have := HE.out; rw [List.length_append, List.length_append]; omega
      have HLn := Lib.hid hlen
      have HBr := Lib.hid hbr
      have HOr := Lib.hid hor
      clear hc hfs htg hle hlen hbr hor
      subst hx
      generalize hS : ss.getD k ByteArray.empty = s at *
      go_wp2_with (go_at_call 30; refine (text_any _ _ s w.heap.size _ HOr.out hsz HLn.out).mono ?_; rintro e w3 ⟨v3, rfl, ho3, hb3⟩)
      go_roundw
      case rel => exact ⟨k + 1, by omega, by go_num, by rw [HFS.out]; simpa [etext] using ho3, HBr.out.trans hb3⟩
      case measure => simp [intOf]; omega
    · obtain rfl : k = ss.length := by omega
      go_wp2
      go_ret
      refine ⟨_, rfl, ?_, hbr⟩
      simpa [etexts] using hor

/-! ### the reference -/
theorem refText_any (v : Value) (l : List UInt8) (s : ByteArray) (w : World) (h : Sh w v l) (hl : l.length + 8 + s.size ≤ 140737488355328) :
    Calls Try.prog 20 #[v, .string s] w fun e w' => ∃ v', e = .returned v' ∧ Own w' w.heap.size 5 v' (l ++ etext s) ∧ Below w.heap.size w w' := by
  have hel := enc_length s.size (by omega)
  have hns := nsize_le s.size
  have HE := Lib.hid hel
  clear hel
  go_enter Try.func20, Try.ntmps20
  go_wp2_with (first
    | (go_at_call 12; refine (refPut_any v l s.size _ h (by omega) (by omega)).mono ?_; rintro e w2 ⟨v2, rfl, ho2, hb2⟩; have s2 := hb2.size)
    | (at_builtin; refine app_string (base := w.heap.size) Try.underlying22 Try.underlying9 info_byte rfl _ _ rfl rfl ho2 rfl (by have := HE.out; simp [this]; omega) s2 ?_; intro v3 w3 ho3 hb3))
  go_ret
  exact ⟨v3, rfl, by simpa [etext] using ho3, hb2.trans hb3⟩

theorem refTexts_any (v lv : Value) (l : List UInt8) (ss : List ByteArray) (w : World) (h : Sh w v l) (hs : ShS w lv ss) (hl : l.length + 8 + tot ss ≤ 140737488355328) (hn : ss.length < 4611686018427387904) :
    Calls Try.prog 23 #[v, lv] w fun e w' => ∃ v', e = .returned v' ∧ Sh w' v' (l ++ etexts ss) ∧ Below w.heap.size w w' := by
  obtain ⟨x, cap, rfl, g1, g2, g3, g4⟩ := hs.open
  rw [strs_length] at g1 g4 ⊢
  have hel := enc_length ss.length hn
  have hns := nsize_le ss.length
  have HE := Lib.hid hel
  have hul : IntKind.u64.wrap (ss.length : Int) = (ss.length : Int) := IntWalk.u64_in _ ⟨by omega, by omega⟩
  have hnI : (ss.length : Int) < 4611686018427387904 := by omega
  clear hel hs
  go_enter Try.func23, Try.ntmps23
  go_wp2_with (go_at_call 12; refine (refPut_any v l ss.length _ h (by omega) hn).mono ?_; rintro e w2 ⟨v2, rfl, ho2, hb2⟩)
  have s2 := hb2.size
  have HO := Lib.hid ho2.sh
  have HB := Lib.hid hb2
  have G4 := Lib.hid g4
  clear ho2 hb2 g4 g3 h
  go_loopw [5, 7] (fun o i wr => ∃ k : Nat, k ≤ ss.length ∧ i = .int .i64 k ∧ Sh wr o (l ++ enc ss.length ++ (ss.take k).flatMap etext) ∧ Below w.heap.size w wr) (fun _ i _ => ss.length - (intOf i).toNat)
  case atStart => exact ⟨0, by omega, rfl, by simpa using HO.out, HB.out⟩
  case round =>
    obtain ⟨k, hk, rfl, hor, hbr⟩ := hrel
    have hsz := hbr.size
    by_cases hlt : k < ss.length
    · obtain ⟨b, off, hx, hc⟩ := (Shows.at' G4.out hbr (Nat.le_refl _)).cells1 (by simp; omega)
      have hck := hc k _ (strs_get ss k hlt)
      have htg := tot_get ss k hlt
      have hfs := flat_snoc ss k hlt
      have HFS := Lib.hid hfs
      have hle := etexts_le (ss.take k) (by omega)
      have hlen : (l ++ enc ss.length ++ (ss.take k).flatMap etext).length + 8 + (ss.getD k ByteArray.empty).size ≤ 140737488355328 := by have := HE.out; rw [List.length_append, List.length_append]; omega
      have HLn := Lib.hid hlen
      have HBr := Lib.hid hbr
      have HOr := Lib.hid hor
      clear hc hfs htg hle hlen hbr hor
      subst hx
      generalize hS : ss.getD k ByteArray.empty = s at *
      go_wp2_with (go_at_call 20; refine (refText_any _ _ s _ HOr.out HLn.out).mono ?_; rintro e w3 ⟨v3, rfl, ho3, hb3⟩)
      go_roundw
      case rel => exact ⟨k + 1, by omega, by go_num, by rw [HFS.out]; simpa using ho3.sh, bthen HBr.out hb3 (Nat.le_refl _)⟩
      case measure => simp [intOf]; omega
    · obtain rfl : k = ss.length := by omega
      go_wp2
      go_ret
      refine ⟨_, rfl, ?_, hbr⟩
      simpa [etexts] using hor
end Go.Proofs.Ytgikmhpfkgacjaa
