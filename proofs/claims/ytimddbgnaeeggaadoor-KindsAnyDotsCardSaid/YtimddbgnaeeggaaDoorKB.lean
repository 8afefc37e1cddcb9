import Derived.Test.YtimddbgnaeeggaaDoorEngL
import Derived.Test.YtimddbgnaeeggaaDoorProg
namespace Go.Proofs.YtimddbgnaeeggaaDoor.KD
open Go.Eng
set_option maxRecDepth 100000
/-! ### Bytes and numbers, plainly. -/
/-- The number that bytes are, the highest first. -/
@[irreducible] def hiN (L : List UInt8) : Nat := L.foldl (fun v b => v * 256 + b.toNat) 0
theorem hiN_foldl (L : List UInt8) : ∀ a : Nat, L.foldl (fun v b => v * 256 + b.toNat) a = a * 256 ^ L.length + L.foldl (fun v b => v * 256 + b.toNat) 0 := by
  induction L with
  | nil => intro a; simp
  | cons b L ih =>
    intro a
    rw [List.foldl_cons, List.foldl_cons, ih (a * 256 + b.toNat), ih (0 * 256 + b.toNat), List.length_cons, Nat.pow_succ, Nat.add_mul, Nat.zero_mul, Nat.zero_add, Nat.mul_assoc, Nat.mul_comm 256, Nat.add_assoc]
theorem hiN_nil : hiN [] = 0 := by unfold hiN; rfl
theorem hiN_cons (b : UInt8) (L : List UInt8) : hiN (b :: L) = b.toNat * 256 ^ L.length + hiN L := by
  unfold hiN
  rw [List.foldl_cons, hiN_foldl]
  simp
theorem hiN_snoc (L : List UInt8) (b : UInt8) : hiN (L ++ [b]) = hiN L * 256 + b.toNat := by
  unfold hiN
  rw [List.foldl_append]; rfl
theorem hiN_lt (L : List UInt8) : hiN L < 256 ^ L.length := by
  induction L with
  | nil => rw [hiN_nil]; decide
  | cons b L ih =>
    rw [hiN_cons, List.length_cons, Nat.pow_succ]
    have h1 : b.toNat < 256 := b.toNat_lt
    generalize 256 ^ L.length = p at *
    have : b.toNat * p ≤ 255 * p := Nat.mul_le_mul_right p (by omega)
    omega
/-- A number in so many bytes, the highest first. -/
def beR (u : Nat) : Nat → List UInt8
  | 0 => []
  | n + 1 => UInt8.ofNat (u / 256 ^ n) :: beR u n
@[irreducible] def be (n u : Nat) : List UInt8 := beR u n
theorem be_0 (u : Nat) : be 0 u = [] := by unfold be; rfl
theorem be_s (n u : Nat) : be (n + 1) u = UInt8.ofNat (u / 256 ^ n) :: be n u := by unfold be; rfl
theorem be_length (n u : Nat) : (be n u).length = n := by
  induction n with
  | zero => rw [be_0]; rfl
  | succ n ih => rw [be_s, List.length_cons, ih]
theorem hiN_be (n u : Nat) : hiN (be n u) = u % 256 ^ n := by
  induction n with
  | zero => rw [be_0, hiN_nil, Nat.pow_zero, Nat.mod_one]
  | succ n ih =>
    rw [be_s, hiN_cons, ih, be_length, Nat.pow_succ]
    have h1 : (UInt8.ofNat (u / 256 ^ n)).toNat = u / 256 ^ n % 256 := by simp
    rw [h1, Nat.mod_mul, Nat.mul_comm (256 ^ n), Nat.add_comm]
theorem be_high (n a h : Nat) : be n (a * 256 ^ n + h) = be n h := by
  induction n generalizing a with
  | zero => rw [be_0, be_0]
  | succ n ih =>
    have e : a * 256 ^ (n + 1) = a * 256 * 256 ^ n := by rw [Nat.pow_succ, Nat.mul_comm (256 ^ n), Nat.mul_assoc]
    rw [be_s, be_s, e, ih]
    congr 1
    have p : 0 < 256 ^ n := Nat.pos_of_ne_zero (by simp)
    rw [Nat.add_comm, Nat.add_mul_div_right _ _ p]
    apply UInt8.toNat_inj.1
    simp
theorem be_hiN : ∀ L : List UInt8, be L.length (hiN L) = L
  | [] => be_0 _
  | b :: L => by
    have p : 0 < 256 ^ L.length := Nat.pos_of_ne_zero (by simp)
    rw [List.length_cons, be_s, hiN_cons, be_high, be_hiN L, Nat.add_comm, Nat.add_mul_div_right _ _ p, Nat.div_eq_of_lt (hiN_lt L), Nat.zero_add]
    simp
theorem be_inj {n u v : Nat} (hu : u < 256 ^ n) (hv : v < 256 ^ n) (h : be n u = be n v) : u = v := by
  have := congrArg hiN h
  rw [hiN_be, hiN_be, Nat.mod_eq_of_lt hu, Nat.mod_eq_of_lt hv] at this
  exact this
/-- The bits of a float as they are written. -/
@[irreducible] def fbits (x : Nat) : Nat := if isNan x then 9221120237041090560 else x
theorem fbits_nan {x : Nat} (h : isNan x = true) : fbits x = 9221120237041090560 := by unfold fbits; rw [if_pos h]
theorem fbits_num {x : Nat} (h : isNan x = false) : fbits x = x := by unfold fbits; rw [if_neg (by rw [h]; decide)]
theorem fbits_lt {x : Nat} (h : x < 18446744073709551616) : fbits x < 18446744073709551616 := by
  cases hn : isNan x with
  | true => rw [fbits_nan hn]; decide
  | false => rw [fbits_num hn]; exact h
/-- A text of bytes. -/
def bs (L : List UInt8) : ByteArray := ⟨L.toArray⟩
theorem bs_list (L : List UInt8) : (bs L).data.toList = L := rfl
theorem bs_size (L : List UInt8) : (bs L).size = L.length := by simp [bs, ByteArray.size]
theorem bs_inj {L M : List UInt8} (h : bs L = bs M) : L = M := by
  have := congrArg (fun s => s.data.toList) h
  simpa [bs] using this
theorem bs_eq (s : ByteArray) : s = bs s.data.toList := by cases s; simp [bs]
theorem bs_append (L M : List UInt8) : bs L ++ bs M = bs (L ++ M) := by
  apply ByteArray.ext
  simp [bs]
theorem s5 : Tryd.prog.types[5].size = 1 := rfl
theorem b5 : Tryd.prog.types[5].bytes = 1 := rfl
/-- A row without addresses. -/
def Pl (l : List A) : Prop := (∀ δ : Nat → Nat, l.map (A.ren δ) = l) ∧ ∀ n, l.all (A.okb n) = true
theorem ren_pl {l : List A} (h : Pl l) (δ : Nat → Nat) (ty : TypeId) (mk : Bool) : some (Ob.cells l ty mk) = some ((Ob.cells l ty mk).ren δ) := by
  simp only [Ob.ren, h.1 δ]
theorem y'5 {l : List A} {K : List A → Prop} (_ : Pl l) (h : K l) : forceL l K := by rw [forceL_eq]; exact h
theorem y'6 {l : List A} {δ : Nat → Nat} {K : List A → Prop} (e : Pl l) (h : K l) : forceL (l.map (A.ren δ)) K := by
  rw [forceL_eq, e.1]; exact h
/-- Rows of floats. -/
@[irreducible] def f64s (l : List Nat) : List A := l.map fun (n : Nat) => A.flt .f64 n
theorem f64s_get {rs : List A} {l : List Nat} (h : rs = f64s l) {i x : Nat} (hx : l[i]? = some x) : rs[i]? = some (.flt .f64 x) := by subst h; simp [f64s, hx]
theorem f64s_pl {rs : List A} {l : List Nat} (h : rs = f64s l) : Pl rs := by
  subst h
  refine ⟨fun δ => by simp [f64s, A.ren], fun n => ?_⟩
  rw [List.all_eq_true]
  intro x hx
  unfold f64s at hx
  obtain ⟨y, _, rfl⟩ := List.mem_map.1 hx
  rfl
/-- The bytes of some floats. -/
@[irreducible] def fbytes (l : List Nat) : List UInt8 := l.flatMap fun x => be 8 (fbits x)
theorem fbytes_nil : fbytes [] = [] := by unfold fbytes; rfl
theorem fbytes_one (x : Nat) : fbytes [x] = be 8 (fbits x) := by unfold fbytes; simp
theorem fbytes_two (x y : Nat) : fbytes [x, y] = be 8 (fbits x) ++ be 8 (fbits y) := by unfold fbytes; simp
theorem fbytes_snoc (l : List Nat) (x : Nat) : fbytes (l ++ [x]) = fbytes l ++ be 8 (fbits x) := by unfold fbytes; simp
theorem fbytes_length (l : List Nat) : (fbytes l).length = l.length * 8 := by
  induction l with
  | nil => rw [fbytes_nil]; rfl
  | cons x l ih =>
    have e : fbytes (x :: l) = be 8 (fbits x) ++ fbytes l := by unfold fbytes; simp
    rw [e, List.length_append, be_length, ih, List.length_cons]; omega
/-- What is known of a writer that holds bytes: its block, the block of its bytes. -/
inductive WOut (L : List UInt8) (H : Hp) : Prop where
  | here (cs : List A) (x : List UInt8) (len cap : Nat) (mk : Bool) (e : H = [.cells [.slc 1 0 len cap] 146 false, .cells cs 5 mk]) (hcs : cs = u8s (L ++ x)) (hl : len = L.length) (hc : cap = len + x.length)
  | moved (cs os : List A) (x M : List UInt8) (len cap : Nat) (mk mo : Bool) (e : H = [.cells [.slc 2 0 len cap] 146 false, .cells os 5 mo, .cells cs 5 mk]) (hcs : cs = u8s (L ++ x)) (hos : os = u8s M) (hl : len = L.length) (hc : cap = len + x.length)
theorem beqL (A B : List UInt8) : ((bs A).data.toList == (bs B).data.toList) = decide (A = B) := by
  show (A == B) = _
  by_cases h : A = B
  · rw [h, decide_eq_true rfl]; simp
  · rw [decide_eq_false h]; simp [h]
end Go.Proofs.YtimddbgnaeeggaaDoor.KD
