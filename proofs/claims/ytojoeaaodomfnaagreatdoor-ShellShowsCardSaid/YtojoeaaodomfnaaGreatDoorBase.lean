/- Of no program: what a slice shows (read alone), what a call owns, and the laws of append over both. -/
import Derived.WalkKit
import Derived.WalkLawsBesides
import Derived.WalkSpells
import Derived.Handy
import Derived.Lib.Hide
import Derived.Lib.AppendStr
import Derived.Laws.AppendOwnNone
namespace Go.Proofs.YtojoeaaodomfnaaGreatDoor
set_option linter.unusedVariables false
set_option linter.unusedSimpArgs false
set_option linter.unnecessarySimpa false
open Go.RowKit

/-! ### worlds -/
theorem bthen {B : Nat} {a b c : World} (h : Below B a b) (k : Below b.heap.size b c) (hB : B ≤ a.heap.size) : Below B a c :=
  h.trans (k.mono (Nat.le_trans hB h.size))
theorem bgrow {w w' : World} (h : Below w.heap.size w w') (row : Option Nat) : w.grownBy w' row :=
  ⟨h.os, h.tape, h.output, h.size, fun k hk _ => h.block k hk⟩
theorem bcell {B : Nat} {w w' : World} (h : Below B w w') {p : Addr} {v : Value} (hc : w.cell? p = some v) (hp : p.block < B) : w'.cell? p = some v := (h.cell hp).trans hc
theorem blt {w : World} {p : Addr} {v : Value} (hc : w.cell? p = some v) : p.block < w.heap.size := World.block_lt_of_cell? w p hc
theorem bkeep {w w' : World} (h : Below w.heap.size w w') {p : Addr} {v : Value} (hc : w.cell? p = some v) : w'.cell? p = some v := bcell h hc (blt hc)

/-! ### what a slice shows -/
/-- v is a slice of n elements (of 'size' cells each), whose cells are xs. -/
def Shows (w : World) (size : Nat) (v : Value) (n : Nat) (xs : List Value) : Prop :=
  xs.length = n * size ∧ ∃ a cap, v = .slice a n cap ∧ n ≤ cap ∧ cap ≤ maxLen ∧ (a = none → cap = 0) ∧
    ∀ x, a = some x → ∀ j u, xs[j]? = some u → w.cell? (x.add j) = some u

theorem Shows.nil (w : World) (size : Nat) : Shows w size (.slice none 0 0) 0 [] :=
  ⟨by simp, none, 0, rfl, Nat.le_refl _, by simp [maxLen], fun _ => rfl, fun x h => by simp at h⟩
theorem Shows.below {w w' : World} {size n : Nat} {v : Value} {xs : List Value} (h : Shows w size v n xs) (hb : Below w.heap.size w w') : Shows w' size v n xs := by
  obtain ⟨h1, a, cap, rfl, h2, h3, h4, h5⟩ := h
  exact ⟨h1, a, cap, rfl, h2, h3, h4, fun x hx j u hu => bkeep hb (h5 x hx j u hu)⟩
theorem Shows.drew {w : World} {size n : Nat} {v : Value} {xs : List Value} (h : Shows w size v n xs) : Shows w.drew size v n xs := h.below (Below.refl _ _).drew
theorem drewN_below (w : World) (n : Nat) : Below w.heap.size w (w.drewN n) := ⟨rfl, rfl, rfl, Nat.le_refl _, fun _ _ => rfl⟩
theorem Shows.drewN {w : World} {size n : Nat} {v : Value} {xs : List Value} (h : Shows w size v n xs) (k : Nat) : Shows (w.drewN k) size v n xs := h.below (drewN_below w k)
theorem Shows.alloc {w : World} {size n : Nat} {v : Value} {xs : List Value} (h : Shows w size v n xs) (o : Obj) : Shows (w.alloc o) size v n xs := h.below ((Below.refl _ _).alloc (Nat.le_refl _) o)
/-- In a later world of a loop: what was shown when the call began. -/
theorem Shows.at' {w w' : World} {size n : Nat} {v : Value} {xs : List Value} (h : Shows w size v n xs) {B : Nat} (hb : Below B w w') (hB : w.heap.size ≤ B) : Shows w' size v n xs := h.below (hb.mono hB)
theorem Shows.of_own {w : World} {base e size n : Nat} {v : Value} {xs : List Value} (h : w.ownsRow base e size v n xs) : Shows w size v n xs := by
  refine ⟨h.1, ?_⟩
  rcases h.2 with ⟨rfl, rfl⟩ | ⟨g, cap, cur, rfl, hb, hg, hnc, hcm, hcs, htake⟩
  · have : xs = [] := List.eq_nil_of_length_eq_zero (by simpa using h.1)
    subst this
    exact (Shows.nil w size).2
  · refine ⟨_, cap, rfl, hnc, hcm, fun e => by simp at e, fun x hx j u hu => ?_⟩
    simp only [Option.some.injEq] at hx
    subst hx
    exact h.cells (g := g) rfl j u hu
theorem Shows.len_le {w : World} {size n : Nat} {v : Value} {xs : List Value} (h : Shows w size v n xs) : n ≤ maxLen := by
  obtain ⟨h1, a, cap, rfl, h2, h3, h4, h5⟩ := h
  exact Nat.le_trans h2 h3
/-- 's[lo:hi]', as the walk writes it. -/
theorem Shows.sliced {w : World} {size n lo hi m : Nat} {a : Option Addr} {cap : Nat} {xs : List Value} (h : Shows w size (.slice a n cap) n xs) (h1 : lo ≤ hi) (h2 : hi ≤ n) (h3 : hi ≤ m) (h4 : m ≤ cap) :
    Shows w size (.slice (if m = lo then a else a.map (·.add (lo * size))) (hi - lo) (m - lo)) (hi - lo) ((xs.drop (lo * size)).take ((hi - lo) * size)) := by
  obtain ⟨hx, a', cap', hv, k1, k2, k3, k4⟩ := h
  simp only [Value.slice.injEq] at hv
  obtain ⟨rfl, _, rfl⟩ := hv
  refine ⟨?_, _, _, rfl, by omega, by omega, ?_, ?_⟩
  · rw [List.length_take, List.length_drop, hx, ← Nat.mul_sub_right_distrib]
    exact Nat.min_eq_left (Nat.mul_le_mul_right _ (by omega))
  · intro e
    split at e
    · omega
    · cases a with
      | none => have := k3 rfl; omega
      | some a => simp at e
  · intro x hx' j u hu
    rw [List.getElem?_take] at hu
    split at hu
    · rename_i hj
      rw [List.getElem?_drop] at hu
      split at hx'
      · rename_i he
        have : hi - lo = 0 := by omega
        rw [this] at hj; simp at hj
      · cases a with
        | none => simp at hx'
        | some a =>
          simp only [Option.map_some, Option.some.injEq] at hx'
          subst hx'
          rw [show ((fun x : Addr => x.add (lo * size)) a).add j = a.add (lo * size + j) from Addr.add_add _ _ _]
          exact k4 a rfl _ u hu
    · cases hu

/-! ### bytes -/
def bytes (l : List UInt8) : List Value := l.map fun c => .int .u8 (c.toNat : Int)
@[simp] theorem bytes_length (l : List UInt8) : (bytes l).length = l.length := by simp [bytes]
theorem bytes_append (l r : List UInt8) : bytes (l ++ r) = bytes l ++ bytes r := by simp [bytes]
theorem bytes_one (l : List UInt8) : ∀ u ∈ bytes l, u.oneCell' = true := by
  intro u hu; simp only [bytes, List.mem_map] at hu; obtain ⟨_, _, rfl⟩ := hu; rfl
theorem bytes_get (l : List UInt8) (j : Nat) : (bytes l)[j]? = l[j]?.map fun c => .int .u8 (c.toNat : Int) := by simp [bytes]
theorem strCells_eq (s : ByteArray) : Lib.strCells s = bytes s.data.toList := rfl
/-- The slice v shows the bytes l. -/
def Sh (w : World) (v : Value) (l : List UInt8) : Prop := Shows w 1 v l.length (bytes l)
/-- The call owns the row behind v (a block from 'base' on); it holds the bytes l. e: the number of the type byte. -/
def Own (w : World) (base e : Nat) (v : Value) (l : List UInt8) : Prop := w.ownsRow base e 1 v l.length (bytes l)
theorem Sh.nil (w : World) : Sh w (.slice none 0 0) [] := Shows.nil w 1
theorem Sh.below {w w' : World} {v : Value} {l : List UInt8} (h : Sh w v l) (hb : Below w.heap.size w w') : Sh w' v l := Shows.below h hb
theorem Sh.drewN {w : World} {v : Value} {l : List UInt8} (h : Sh w v l) (k : Nat) : Sh (w.drewN k) v l := Shows.drewN h k
theorem Sh.at' {w w' : World} {v : Value} {l : List UInt8} (h : Sh w v l) {B : Nat} (hb : Below B w w') (hB : w.heap.size ≤ B) : Sh w' v l := Shows.at' h hb hB
theorem Own.sh {w : World} {base e : Nat} {v : Value} {l : List UInt8} (h : Own w base e v l) : Sh w v l := Shows.of_own h
theorem Own.nil (w : World) (base e : Nat) : Own w base e (.slice none 0 0) [] := World.ownsRow_nil _ _ _ _
theorem Own.mono {w : World} {base base' e : Nat} {v : Value} {l : List UInt8} (h : Own w base e v l) (hb : base' ≤ base) : Own w base' e v l := by
  refine ⟨h.1, ?_⟩
  rcases h.2 with h | ⟨g, cap, cur, r1, r2, r3⟩
  · exact .inl h
  · exact .inr ⟨g, cap, cur, r1, Nat.le_trans hb r2, r3⟩
theorem Own.below {w w' : World} {base e : Nat} {v : Value} {l : List UInt8} (h : Own w base e v l) (hb : Below w.heap.size w w') : Own w' base e v l :=
  World.ownsRow.kept h (bgrow hb none) (by cases hv : v.ownBlock <;> simp)
theorem Own.alloc {w : World} {base e : Nat} {v : Value} {l : List UInt8} (h : Own w base e v l) (o : Obj) : Own (w.alloc o) base e v l := World.ownsRow.alloc h o
theorem Own.row {w : World} {base e : Nat} {v : Value} {l : List UInt8} (h : Own w base e v l) : ∀ k, v.ownBlock = some k → base ≤ k := fun k hk => (World.ownsRow.lt h k hk).1
theorem Sh.len {w : World} {v : Value} {l : List UInt8} (h : Sh w v l) : l.length ≤ 9223372036854775807 := by have := Shows.len_le h; simpa [maxLen] using this
theorem Sh.open {w : World} {v : Value} {l : List UInt8} (h : Sh w v l) : ∃ a cap, v = .slice a l.length cap ∧ l.length ≤ cap ∧ cap ≤ 9223372036854775807 ∧ (a = none → cap = 0) ∧ Sh w (.slice a l.length cap) l := by
  have h' := h
  obtain ⟨_, a, cap, rfl, h2, h3, h4, _⟩ := h
  exact ⟨a, cap, rfl, h2, by simpa [maxLen] using h3, h4, h'⟩
/-- Where there is a byte the address is a plain one. -/
theorem Sh.cells {w : World} {a : Option Addr} {cap : Nat} {n : Nat} {l : List UInt8} (h : Sh w (.slice a n cap) l) (hl : 0 < l.length) :
    ∃ b off, a = some ⟨b, off, none⟩ ∧ ∀ j, j < l.length → w.cell? ⟨b, off + j, none⟩ = some (.int .u8 ((l.getD j 0).toNat : Int)) := by
  obtain ⟨_, a', cap', hv, _, _, h4, h5⟩ := h
  simp only [Value.slice.injEq] at hv
  obtain ⟨rfl, rfl, rfl⟩ := hv
  cases a with
  | none => have := h4 rfl; omega
  | some x =>
    have h0 := h5 x rfl 0 (.int .u8 ((l.getD 0 0).toNat : Int)) (by rw [bytes_get, List.getElem?_eq_getElem hl]; simp [List.getD, List.getElem?_eq_getElem hl])
    obtain ⟨b, off, spot⟩ := x
    have : spot = none := by simpa [Addr.add] using World.cell?_spot h0
    subst this
    refine ⟨b, off, rfl, fun j hj => ?_⟩
    have := h5 _ rfl j (.int .u8 ((l.getD j 0).toNat : Int)) (by rw [bytes_get, List.getElem?_eq_getElem hj]; simp [List.getD, List.getElem?_eq_getElem hj])
    rwa [Addr.add_lit] at this
theorem Sh.sliced {w : World} {n lo hi m : Nat} {a : Option Addr} {cap : Nat} {l : List UInt8} (h : Sh w (.slice a n cap) l) (h1 : lo ≤ hi) (h2 : hi ≤ l.length) (h3 : hi ≤ m) (h4 : m ≤ cap) :
    Sh w (.slice (if m = lo then a else a.map (·.add lo)) (hi - lo) (m - lo)) ((l.drop lo).take (hi - lo)) := by
  have hn : n = l.length := by
    obtain ⟨_, a', cap', hv, _⟩ := h
    simp only [Value.slice.injEq] at hv
    exact hv.2.1
  subst hn
  have := Shows.sliced (lo := lo) (hi := hi) (m := m) h h1 h2 h3 h4
  simp only [Nat.mul_one] at this
  unfold Sh
  have e1 : ((l.drop lo).take (hi - lo)).length = hi - lo := by simp; omega
  rw [e1]
  have e2 : bytes ((l.drop lo).take (hi - lo)) = ((bytes l).drop lo).take (hi - lo) := by simp [bytes, List.map_drop, List.map_take]
  rw [e2]; exact this
theorem map_add_zero (a : Option Addr) : a.map (fun x : Addr => x.add 0) = a := by cases a <;> simp [Addr.add]
/-- 's[:k]' -/
theorem Sh.take {w : World} {n : Nat} {a : Option Addr} {cap : Nat} {l : List UInt8} (h : Sh w (.slice a n cap) l) (k : Nat) (hk : k ≤ l.length) : Sh w (.slice a k cap) (l.take k) := by
  have hc : l.length ≤ cap := by obtain ⟨a', cap', e, g, _⟩ := h.open; simp only [Value.slice.injEq] at e; omega
  have := h.sliced (lo := 0) (hi := k) (m := cap) (Nat.zero_le _) hk (by omega) (Nat.le_refl _)
  simpa [map_add_zero] using this
/-- 's[k:]' -/
theorem Sh.drop {w : World} {n : Nat} {a : Option Addr} {cap : Nat} {l : List UInt8} (h : Sh w (.slice a n cap) l) (k : Nat) (hk : k ≤ l.length) : Sh w (.slice (if cap = k then a else a.map (·.add k)) (n - k) (cap - k)) (l.drop k) := by
  have hc : l.length ≤ cap ∧ n = l.length := by obtain ⟨a', cap', e, g, _⟩ := h.open; simp only [Value.slice.injEq] at e; omega
  have := h.sliced (lo := k) (hi := l.length) (m := cap) hk (Nat.le_refl _) hc.1 (Nat.le_refl _)
  rw [hc.2]
  rwa [List.take_of_length_le (by simp)] at this
/-- A slice literal's bytes, in its new block. -/
theorem Sh.lit (w : World) (e : Nat) (l : List UInt8) (hl : l.length ≤ 100) : Sh (w.alloc (.cells (bytes l).toArray e)) (.slice (some ⟨w.heap.size, 0, none⟩) l.length l.length) l := by
  refine ⟨by simp, _, _, rfl, Nat.le_refl _, by simp [maxLen]; omega, fun h => by simp at h, ?_⟩
  intro x hx j u hu
  simp only [Option.some.injEq] at hx
  subst hx
  rw [Addr.add_lit, World.cell?_alloc_mark, Nat.zero_add]
  simpa using hu

theorem Own.lit (w : World) (e : Nat) (l : List UInt8) (hl : l.length ≤ 100 := by simp) : Own (w.alloc (.cells (bytes l).toArray e)) w.heap.size e (.slice (some ⟨w.heap.size, 0, none⟩) l.length l.length) l := by
  have := World.ownsRow_lit (e := e) (size := 1) (base := w.heap.size) w (bytes l).toArray l.length (Nat.le_refl _) (by simp only [maxLen]; omega) (by simp)
  rw [List.toList_toArray] at this
  exact this

/-- A byte out of a number. -/
def ofI (a : Int) : UInt8 := UInt8.ofNat a.toNat
theorem ofI_toNat {a : Int} (h : 0 ≤ a ∧ a < 256) : ((ofI a).toNat : Int) = a := by
  unfold ofI
  rw [UInt8.toNat_ofNat']
  omega
theorem sh1 {w : World} {e : Nat} {a : Int} (ha : 0 ≤ a ∧ a < 256) : Sh (w.alloc (.cells #[.int .u8 a] e)) (.slice (some ⟨w.heap.size, 0, none⟩) 1 1) [ofI a] := by
  have := (Own.lit w e [ofI a] (by simp)).sh
  simpa [bytes, ofI_toNat ha] using this
theorem sh2 {w : World} {e : Nat} {a b : Int} (ha : 0 ≤ a ∧ a < 256) (hb : 0 ≤ b ∧ b < 256) : Sh (w.alloc (.cells #[.int .u8 a, .int .u8 b] e)) (.slice (some ⟨w.heap.size, 0, none⟩) 2 2) [ofI a, ofI b] := by
  have := (Own.lit w e [ofI a, ofI b] (by simp)).sh
  simpa [bytes, ofI_toNat ha, ofI_toNat hb] using this
theorem sh4 {w : World} {e : Nat} {a b c d : Int} (ha : 0 ≤ a ∧ a < 256) (hb : 0 ≤ b ∧ b < 256) (hc : 0 ≤ c ∧ c < 256) (hd : 0 ≤ d ∧ d < 256) :
    Sh (w.alloc (.cells #[.int .u8 a, .int .u8 b, .int .u8 c, .int .u8 d] e)) (.slice (some ⟨w.heap.size, 0, none⟩) 4 4) [ofI a, ofI b, ofI c, ofI d] := by
  have := (Own.lit w e [ofI a, ofI b, ofI c, ofI d] (by simp)).sh
  simpa [bytes, ofI_toNat ha, ofI_toNat hb, ofI_toNat hc, ofI_toNat hd] using this

/-! ### append, onto a row of the call's own -/
section
variable {P : Program}
/-- What is appended may be nil, empty, or show cells. -/
theorem wpList_append_shows {w : World} {ops : Array Oper} {rest : List Oper} {o : Oper} {a : Act} {Q : Exit → Act → World → Prop} (hgd : o.guard = none) (s x : Operand) (t : TypeId)
    (ho : o.op = .call { callee := .builtin .append, args := #[s, x], argTypes := #[t, t] })
    (base : Nat) (e : TypeId) (i : TypeInfo) (z : Value) (size bytes : Nat) (ht : P.underlying t = some (.slice e)) (hi : P.info? e = some i) (hz : i.zero = some z)
    (hsize : i.size = size) (hby : i.bytes = bytes) (hzs : z.cells.size = size) (hsz : 0 < size)
    (v : Value) (n : Nat) (xs : List Value) (hs : a.eval s = v) (hown : w.ownsRow base e size v n xs)
    (sv : Value) (m : Nat) (news : List Value) (hx : a.eval x = sv) (hsh : Shows w size sv m news) (h1 : ∀ u ∈ news, u.oneCell' = true)
    (h63 : n + m ≤ maxLen) (hbytes : (n + m) * bytes ≤ 140737488355328) (hbase : base ≤ w.heap.size)
    (h : ∀ v' w', w'.ownsRow base e size v' (n + m) (xs ++ news) → w.grownBy w' v.ownBlock → wpList P ops Q rest (a.put o.dst v') w') : wpList P ops Q (o :: rest) a w := by
  obtain ⟨hl, ad, c, rfl, h2, h3, h4, h5⟩ := hsh
  cases ad with
  | some ad => exact wpList_append_own w hgd s x t ho base e i z size bytes ht hi hz hsize hby hzs hsz v n xs hs hown ad m c news hx hl (h5 ad rfl) h1 h63 hbytes hbase fun v' w' g1 g2 _ => h v' w' g1 g2
  | none =>
    have hc := h4 rfl
    subst hc
    obtain rfl : m = 0 := by omega
    have hn : news = [] := List.eq_nil_of_length_eq_zero (by simpa using hl)
    subst hn
    refine wpList_append_own_none hgd s x t ho base e i size ht hi v n xs hs hown hx ?_
    exact h v w (by simpa using hown) (World.grownBy.refl _ _)
/-- Bytes onto bytes of the call's own. -/
theorem app_bytes {t e : TypeId} (ht : P.underlying t = some (.slice e)) (he : (P.info? e).map (fun i => (i.zero, i.size, i.bytes)) = some (some (.int .u8 0), 1, 1))
    {w : World} {ops : Array Oper} {rest : List Oper} {o : Oper} {a : Act} {Q : Exit → Act → World → Prop} (hgd : o.guard = none) (s x : Operand)
    (ho : o.op = .call { callee := .builtin .append, args := #[s, x], argTypes := #[t, t] })
    {base : Nat} {v sv : Value} {l m : List UInt8} (hs : a.eval s = v) (hown : Own w base e v l) (hx : a.eval x = sv) (hsh : Sh w sv m)
    (hlen : l.length + m.length ≤ 140737488355328) (hbase : base ≤ w.heap.size)
    (h : ∀ v' w', Own w' base e v' (l ++ m) → Below base w w' → wpList P ops Q rest (a.put o.dst v') w') : wpList P ops Q (o :: rest) a w := by
  obtain ⟨i, hi, hz0, hz1, hz2⟩ := info_parts he
  refine wpList_append_shows hgd s x t ho base e i (.int .u8 0) 1 1 ht hi hz0 hz1 hz2 rfl (by decide) v _ _ hs hown sv _ _ hx hsh (bytes_one _) (by simp only [maxLen]; omega) (by omega) hbase ?_
  intro v' w' h1 h2
  refine h v' w' ?_ ((Below.refl _ _).grown h2 hbase hown.row)
  unfold Own
  rw [bytes_append, List.length_append]; exact h1
/-- A string's bytes onto bytes of the call's own. -/
theorem app_string {t u e : TypeId} (ht : P.underlying t = some (.slice e)) (hu : P.underlying u = some .string) (he : (P.info? e).map (fun i => (i.zero, i.size, i.bytes)) = some (some (.int .u8 0), 1, 1))
    {w : World} {ops : Array Oper} {rest : List Oper} {o : Oper} {a : Act} {Q : Exit → Act → World → Prop} (hgd : o.guard = none) (s x : Operand)
    (ho : o.op = .call { callee := .builtin .append, args := #[s, x], argTypes := #[t, u] })
    {base : Nat} {v : Value} {l : List UInt8} {m : ByteArray} (hs : a.eval s = v) (hown : Own w base e v l) (hx : a.eval x = .string m)
    (hlen : l.length + m.size ≤ 140737488355328) (hbase : base ≤ w.heap.size)
    (h : ∀ v' w', Own w' base e v' (l ++ m.data.toList) → Below base w w' → wpList P ops Q rest (a.put o.dst v') w') : wpList P ops Q (o :: rest) a w := by
  obtain ⟨i, hi, hz0, hz1, hz2⟩ := info_parts he
  refine wpList_plain hgd fun K hK => ?_
  obtain ⟨v', w', hr, g1, g2, _⟩ := Lib.run_append_own_string (P := P) w base t u o.type e i ht hu hi hz0 hz1 hz2 v _ _ hown m (by simp only [maxLen]; omega) hlen hbase
  unfold Oper.wp execOp
  simp only [ho, resolve, invoke, builtin, Sem.run_bind, Sem.run_pure, Result.andThen_ok, List.map_toArray, List.map_cons, List.map_nil, hs, hx, hr]
  refine hK _ _ (h v' w' ?_ ((Below.refl _ _).grown g2 hbase hown.row))
  unfold Own
  rw [bytes_append, List.length_append, ← strCells_eq]
  have : m.data.toList.length = m.size := by rw [Array.length_toList]; rfl
  rw [this]; exact g1
/-- The call owns the row behind v; it holds the cells xs, one an element. -/
def Own1 (w : World) (base e : Nat) (v : Value) (xs : List Value) : Prop := w.ownsRow base e 1 v xs.length xs
/-- Elements of one cell onto a row of the call's own. -/
theorem app_one {t e : TypeId} {z : Value} {by_ : Nat} (ht : P.underlying t = some (.slice e)) (he : (P.info? e).map (fun i => (i.zero, i.size, i.bytes)) = some (some z, 1, by_)) (hz : z.cells.size = 1)
    {w : World} {ops : Array Oper} {rest : List Oper} {o : Oper} {a : Act} {Q : Exit → Act → World → Prop} (hgd : o.guard = none) (s x : Operand)
    (ho : o.op = .call { callee := .builtin .append, args := #[s, x], argTypes := #[t, t] })
    {base : Nat} {v sv : Value} {l m : List Value} (hs : a.eval s = v) (hown : Own1 w base e v l) (hx : a.eval x = sv) (hsh : Shows w 1 sv m.length m) (h1 : ∀ u ∈ m, u.oneCell' = true)
    (hlen : l.length + m.length ≤ 140737488355328) (hlen2 : (l.length + m.length) * by_ ≤ 140737488355328) (hbase : base ≤ w.heap.size)
    (h : ∀ v' w', Own1 w' base e v' (l ++ m) → Below base w w' → wpList P ops Q rest (a.put o.dst v') w') : wpList P ops Q (o :: rest) a w := by
  obtain ⟨i, hi, hz0, hz1, hz2⟩ := info_parts he
  refine wpList_append_shows hgd s x t ho base e i z 1 by_ ht hi hz0 hz1 hz2 hz (by decide) v _ _ hs hown sv _ _ hx hsh h1 (by simp only [maxLen]; omega) hlen2 hbase ?_
  intro v' w' h1 h2
  refine h v' w' ?_ ((Below.refl _ _).grown h2 hbase fun k hk => (World.ownsRow.lt hown k hk).1)
  unfold Own1
  rw [List.length_append]; exact h1
/-- A slice literal's cells, in its new block. -/
theorem Own1.lit (w : World) (e : Nat) (l : List Value) (hl : l.length ≤ 100 := by simp) : Own1 (w.alloc (.cells l.toArray e)) w.heap.size e (.slice (some ⟨w.heap.size, 0, none⟩) l.length l.length) l := by
  have := World.ownsRow_lit (e := e) (size := 1) (base := w.heap.size) w l.toArray l.length (Nat.le_refl _) (by simp only [maxLen]; omega) (by simp)
  rw [List.toList_toArray] at this
  exact this
theorem Own1.nil (w : World) (base e : Nat) : Own1 w base e (.slice none 0 0) [] := World.ownsRow_nil _ _ _ _
theorem Own1.shows {w : World} {base e : Nat} {v : Value} {l : List Value} (h : Own1 w base e v l) : Shows w 1 v l.length l := Shows.of_own h
theorem Own1.alloc {w : World} {base e : Nat} {v : Value} {l : List Value} (h : Own1 w base e v l) (o : Obj) : Own1 (w.alloc o) base e v l := World.ownsRow.alloc h o
theorem Own1.below {w w' : World} {base e : Nat} {v : Value} {l : List Value} (h : Own1 w base e v l) (hb : Below w.heap.size w w') : Own1 w' base e v l :=
  World.ownsRow.kept h (bgrow hb none) (by cases hv : v.ownBlock <;> simp)
/-- Where there is an element the address is a plain one. -/
theorem Shows.cells1 {w : World} {a : Option Addr} {cap : Nat} {n : Nat} {l : List Value} (h : Shows w 1 (.slice a n cap) n l) (hl : 0 < l.length) :
    ∃ b off, a = some ⟨b, off, none⟩ ∧ ∀ j u, l[j]? = some u → w.cell? ⟨b, off + j, none⟩ = some u := by
  obtain ⟨_, a', cap', hv, k1, _, h4, h5⟩ := h
  simp only [Value.slice.injEq] at hv
  obtain ⟨rfl, _, rfl⟩ := hv
  cases a with
  | none => have := h4 rfl; omega
  | some x =>
    have h0 := h5 x rfl 0 l[0] (List.getElem?_eq_getElem hl)
    obtain ⟨b, off, spot⟩ := x
    have : spot = none := by simpa [Addr.add] using World.cell?_spot h0
    subst this
    refine ⟨b, off, rfl, fun j u hu => ?_⟩
    have := h5 _ rfl j u hu
    rwa [Addr.add_lit] at this
theorem Shows.open {w : World} {size n : Nat} {v : Value} {l : List Value} (h : Shows w size v n l) : ∃ a cap, v = .slice a n cap ∧ n ≤ cap ∧ cap ≤ 9223372036854775807 ∧ (a = none → cap = 0) ∧ Shows w size (.slice a n cap) n l := by
  have h' := h
  obtain ⟨_, a, cap, rfl, h2, h3, h4, _⟩ := h
  exact ⟨a, cap, rfl, h2, by simpa [maxLen] using h3, h4, h'⟩
def strs (ss : List ByteArray) : List Value := ss.map .string
@[simp] theorem strs_length (ss : List ByteArray) : (strs ss).length = ss.length := by simp [strs]
theorem strs_append (a b : List ByteArray) : strs (a ++ b) = strs a ++ strs b := by simp [strs]
theorem strs_one (ss : List ByteArray) : ∀ u ∈ strs ss, u.oneCell' = true := by
  intro u hu; simp only [strs, List.mem_map] at hu; obtain ⟨_, _, rfl⟩ := hu; rfl
theorem strs_get (ss : List ByteArray) (j : Nat) (hj : j < ss.length) : (strs ss)[j]? = some (.string (ss.getD j ByteArray.empty)) := by
  simp [strs, List.getD, List.getElem?_eq_getElem hj]
/-- The slice v shows the texts ss. -/
def ShS (w : World) (v : Value) (ss : List ByteArray) : Prop := Shows w 1 v (strs ss).length (strs ss)
/-- 'string(b)'. -/
theorem run_string_of {src e dst : TypeId} (hs : P.underlying src = some (.slice e)) (he : P.underlying e = some (.int .u8)) (hd : P.underlying dst = some .string) {w : World} {v : Value} {l : List UInt8} (h : Sh w v l) :
    (convert src dst v).run P w = .ok (.string ⟨l.toArray⟩) w := by
  obtain ⟨_, a, cap, rfl, h2, h3, h4, h5⟩ := h
  cases a with
  | none =>
    have := h4 rfl
    have hl : l = [] := List.eq_nil_of_length_eq_zero (by omega)
    subst hl
    exact run_convert_bytes_nil w src e hs he _ _ dst hd
  | some x =>
    have hl : (loadCells x l.length).run P w = .ok ((l.map fun c => (c.toNat : Int)).map (Value.int .u8)).toArray w := by
      have := run_loadCells_list (P := P) w x (bytes l) (fun j u hu => h5 x rfl j u hu)
      rw [bytes_length] at this
      rw [this]
      simp [bytes]
    rw [run_convert_bytes_string w src dst e _ _ cap hs he hd, run_bytesToString w _ _ cap _ hl, foldl_push_byteCells]
    simp [ByteArray.empty, ByteArray.emptyWithCapacity]
    rfl
end
end Go.Proofs.YtojoeaaodomfnaaGreatDoor
