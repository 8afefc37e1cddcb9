/- The engine, parts H. -/
import Derived.Test.YtimddbgnaeeggaaDoorEngG
/- The engine, part H: rows of bytes. -/
set_option linter.unusedVariables false
namespace Go.Eng

/-- The byte of a whole number. -/
def b8 (x : Int) : UInt8 := UInt8.ofNat (x % 256).toNat
theorem b8_toNat (x : Int) : ((b8 x).toNat : Int) = x % 256 := by
  unfold b8
  have h0 : 0 ≤ x % 256 := Int.emod_nonneg _ (by decide)
  have h1 : x % 256 < 256 := Int.emod_lt_of_pos _ (by decide)
  rw [UInt8.toNat_ofNat']
  omega
theorem wrap8 (x : Int) : IntKind.u8.wrap x = ((b8 x).toNat : Int) := by
  rw [b8_toNat]
  simp only [IntKind.wrap, IntKind.signed, IntKind.bits]
  simp
theorem b8_ofNat (n : Nat) : b8 (n : Int) = UInt8.ofNat n := by
  apply UInt8.toNat_inj.1
  have := b8_toNat (n : Int)
  rw [UInt8.toNat_ofNat']
  omega
theorem b8_self (b : UInt8) : b8 (b.toNat : Int) = b := by rw [b8_ofNat]; simp
@[simp] theorem u8s_nil : u8s [] = [] := by simp [u8s]
@[simp] theorem u8s_cons (b : UInt8) (l : List UInt8) : u8s (b :: l) = .int .u8 b.toNat :: u8s l := by simp [u8s]
@[simp] theorem u8s_length (l : List UInt8) : (u8s l).length = l.length := by simp [u8s]
@[simp] theorem u8s_append (l m : List UInt8) : u8s (l ++ m) = u8s l ++ u8s m := by simp [u8s]
theorem u8s_take (l : List UInt8) (n : Nat) : (u8s l).take n = u8s (l.take n) := by simp [u8s, List.map_take]
theorem u8s_drop (l : List UInt8) (n : Nat) : (u8s l).drop n = u8s (l.drop n) := by simp [u8s, List.map_drop]
theorem u8s_set (l : List UInt8) (n : Nat) (b : UInt8) : (u8s l).set n (.int .u8 b.toNat) = u8s (l.set n b) := by simp [u8s, List.map_set]
theorem u8s_get {l : List UInt8} {n : Nat} (h : n < l.length) : (u8s l)[n]? = some (.int .u8 (l[n].toNat : Int)) := by simp [u8s, h]
@[simp] theorem u8s_ren (δ : Nat → Nat) (l : List UInt8) : (u8s l).map (A.ren δ) = u8s l := by
  simp only [u8s, List.map_map]
  exact List.map_congr_left fun _ _ => rfl
@[simp] theorem u8s_okb (n : Nat) (l : List UInt8) : (u8s l).all (A.okb n) = true := by
  simp [u8s, A.okb]
theorem repl_u8 (n : Nat) : repl [.int .u8 0] n = u8s (List.replicate n 0) := by simp [repl, u8s]
theorem repl_u8' (n : Nat) : List.replicate n (A.int .u8 0) = u8s (List.replicate n 0) := by simp [u8s]
theorem bytesOf_u8s : ∀ (l : List UInt8), bytesOf (u8s l) = some l
  | [] => by simp [bytesOf]
  | b :: l => by simp [bytesOf, bytesOf_u8s l]
theorem storeL_one (l : List UInt8) (n : Nat) (b : UInt8) : storeL (u8s l) n [.int .u8 (b.toNat : Int)] = u8s (l.set n b) := by
  simp [storeL, u8s_set]
theorem storeL_row : ∀ (m l : List A) (n : Nat), n + m.length ≤ l.length → storeL l n m = l.take n ++ m ++ l.drop (n + m.length)
  | [], l, n, _ => by simp [storeL]
  | x :: m, l, n, h => by
    simp only [List.length_cons] at h
    simp only [storeL]
    rw [storeL_row m (l.set n x) (n + 1) (by simp; omega)]
    have h1 : (l.set n x).take (n + 1) = l.take n ++ [x] := by
      rw [List.take_set, List.take_add_one, List.set_append]
      simp [show n < l.length by omega, Nat.min_eq_left (show n ≤ l.length by omega)]
    have h2 : (l.set n x).drop (n + 1 + m.length) = l.drop (n + (m.length + 1)) := by
      rw [List.drop_set, if_pos (by omega), show n + 1 + m.length = n + (m.length + 1) by omega]
    rw [h1, h2]
    simp
theorem storeL_u8 (m l : List UInt8) (n : Nat) (h : n + m.length ≤ l.length) : storeL (u8s l) n (u8s m) = u8s (l.take n ++ m ++ l.drop (n + m.length)) := by
  rw [storeL_row _ _ _ (by simpa using h)]
  simp [u8s_take, u8s_drop]
theorem tmodN (a b : Nat) : (a : Int).tmod (b : Int) = ((a % b : Nat) : Int) := rfl
theorem tdivN (a b : Nat) : (a : Int).tdiv (b : Int) = ((a / b : Nat) : Int) := rfl
theorem fdivN (a b : Nat) : (a : Int).fdiv (b : Int) = ((a / b : Nat) : Int) := Int.ofNat_fdiv a b |>.symm
theorem u64w (x : Nat) : IntKind.u64.wrap (x : Int) = ((x % 18446744073709551616 : Nat) : Int) := by
  simp only [IntKind.wrap, IntKind.signed, IntKind.bits]
  simp
theorem u32w (x : Nat) : IntKind.u32.wrap (x : Int) = ((x % 4294967296 : Nat) : Int) := by
  simp only [IntKind.wrap, IntKind.signed, IntKind.bits]
  simp
theorem i64w {x : Int} (h0 : -9223372036854775808 ≤ x) (h1 : x ≤ 9223372036854775807) : IntKind.i64.wrap x = x := by
  simp only [IntKind.wrap, IntKind.signed, IntKind.bits]
  simp
  omega
/-- A list is put in another form. -/
theorem y't {l l' : List A} {K : List A → Prop} (e : l = l') (h : K l') : forceL l K := by subst e; rw [forceL_eq]; exact h
theorem y'f {l l' : List A} {K : List A → Prop} (e : l = l') (h : ∀ v, v = l' → K v) : forceL l K := by rw [forceL_eq]; exact h l e
theorem y'1 {l : List A} {L : List UInt8} {K : List A → Prop} (e : l = u8s L) (h : K l) : forceL l K := by rw [forceL_eq]; exact h
theorem y'2 {l : List A} {L : List UInt8} {δ : Nat → Nat} {K : List A → Prop} (e : l = u8s L) (h : K l) : forceL (l.map (A.ren δ)) K := by
  have : l.map (A.ren δ) = l := by subst e; simp
  rw [forceL_eq, this]; exact h
theorem ren_fv {l : List A} {L : List UInt8} (e : l = u8s L) (δ : Nat → Nat) (ty : TypeId) (mk : Bool) : some (Ob.cells l ty mk) = some ((Ob.cells l ty mk).ren δ) := by
  subst e; simp [Ob.ren]
theorem all_fv {l : List A} {L : List UInt8} (e : l = u8s L) (n : Nat) : l.all (A.okb n) = true := by subst e; simp
/-- One byte is appended: into the room that there is; into a new row. -/
theorem app_in {cs : List A} {L x : List UInt8} {v : Int} {n S : Nat} (hcs : cs = u8s (L ++ x)) (hn : n = L.length) (hS : S = 1) (h : n + 1 ≤ (L ++ x).length) {b : UInt8} (hv : v = b.toNat) :
    storeL cs (0 + n * S) (List.drop 0 (List.take (0 + 1 * S) [.int .u8 v])) = u8s ((L ++ [b]) ++ x.tail) := by
  subst hS hcs hn hv
  simp only [Nat.zero_add, Nat.mul_one, List.take_succ_cons, List.take_zero, List.drop_zero]
  rw [storeL_one]
  congr 1
  cases x with
  | nil => exact absurd h (by simp)
  | cons y x => simp
theorem app_new {cs : List A} {L x : List UInt8} {v : Int} {n S c : Nat} {z : A} (hcs : cs = u8s (L ++ x)) (hn : n = L.length) (hS : S = 1) (hz : z = .int .u8 0) {b : UInt8} (hv : v = b.toNat) :
    List.drop 0 (List.take (0 + n * S) cs) ++ List.drop 0 (List.take (0 + 1 * S) [.int .u8 v]) ++ repl [z] ((c - (n + 1)) * S) = u8s ((L ++ [b]) ++ List.replicate (c - (n + 1)) 0) := by
  subst hS hcs hn hz hv
  simp only [Nat.zero_add, Nat.mul_one, List.take_succ_cons, List.take_zero, List.drop_zero, repl_u8, u8s_take]
  rw [List.take_left' rfl]
  simp
theorem y'v {α : Type} {o : Option α} {K : α → Prop} {x : α} (h : o = some x) (k : ∀ y, y = x → K y) : optx.match_1 (fun _ => Prop) o (fun x => K x) (fun _ => False) := by subst h; exact k x rfl
theorem fv_get {cs : List A} {L : List UInt8} (h : cs = u8s L) {n : Nat} (hn : n < L.length) : cs[n]? = some (.int .u8 (L[n].toNat : Int)) := by subst h; exact u8s_get hn
theorem fv_len {cs : List A} {L : List UInt8} (h : cs = u8s L) : cs.length = L.length := by subst h; simp
theorem fv_set {cs : List A} {L : List UInt8} (h : cs = u8s L) {n : Nat} {v : Int} {b : UInt8} (hv : v = b.toNat) : storeL cs n [.int .u8 v] = u8s (L.set n b) := by subst h hv; exact storeL_one _ _ _
theorem fv_str {cs : List A} {L : List UInt8} (h : cs = u8s L) (n : Nat) : bytesOf (List.drop 0 (List.take (0 + n) cs)) = some (L.take n) := by
  subst h; simp [u8s_take, bytesOf_u8s]
theorem y'8 {cs : List A} {L x : List UInt8} {n : Nat} (h : cs = u8s (L ++ x)) (hn : n = L.length) : bytesOf (List.drop 0 (List.take (0 + n) cs)) = some L := by
  rw [fv_str h, hn, List.take_left' rfl]
theorem y'7 {cs : List A} {L x : List UInt8} {n : Nat} (h : cs = u8s (L ++ x)) (hn : n = L.length) : decide (0 + n ≤ cs.length) = true := by
  subst h hn; simp
theorem xor8 (a : UInt8) (k : Int) : ∃ b : UInt8, bitx .xor .u8 (a.toNat : Int) k = b.toNat := ⟨b8 _, wrap8 _⟩
theorem app_in2 {cs : List A} {L x : List UInt8} {v w : Int} {n S : Nat} (hcs : cs = u8s (L ++ x)) (hn : n = L.length) (hS : S = 1) (h : n + 2 ≤ (L ++ x).length) {b c : UInt8} (hv : v = b.toNat) (hw : w = c.toNat) :
    storeL cs (0 + n * S) (List.drop 0 (List.take (0 + 2 * S) [.int .u8 v, .int .u8 w])) = u8s ((L ++ [b, c]) ++ x.drop 2) := by
  subst hS hcs hn hv hw
  have e : [A.int .u8 (b.toNat : Int), .int .u8 (c.toNat : Int)] = u8s [b, c] := by simp
  simp only [Nat.zero_add, Nat.mul_one, List.take_succ_cons, List.take_zero, List.drop_zero]
  rw [e, storeL_u8 _ _ _ (by simpa using h)]
  congr 1
  rw [List.take_left' rfl, List.drop_append]
  simp
theorem app_new2 {cs : List A} {L x : List UInt8} {v w : Int} {n S k : Nat} {z : A} (hcs : cs = u8s (L ++ x)) (hn : n = L.length) (hS : S = 1) (hz : z = .int .u8 0) {b c : UInt8} (hv : v = b.toNat) (hw : w = c.toNat) :
    List.drop 0 (List.take (0 + n * S) cs) ++ List.drop 0 (List.take (0 + 2 * S) [.int .u8 v, .int .u8 w]) ++ repl [z] ((k - (n + 2)) * S) = u8s ((L ++ [b, c]) ++ List.replicate (k - (n + 2)) 0) := by
  subst hS hcs hn hz hv hw
  simp only [Nat.zero_add, Nat.mul_one, List.take_succ_cons, List.take_zero, List.drop_zero, repl_u8, u8s_take]
  rw [List.take_left' rfl]
  simp
/-- Rows without addresses, where nil slices become empty rows. -/
theorem ung_pl {l : List A} (h : ∀ δ, l.map (A.ren δ) = l) (k : Nat) (ty : TypeId) (mk : Bool) : Ob.cells l ty mk = (Ob.cells l ty mk).ung k := by
  simp only [Ob.ung]; rw [ung_row h k]
theorem ung_fv {l : List A} {L : List UInt8} (e : l = u8s L) (k : Nat) (ty : TypeId) (mk : Bool) : Ob.cells l ty mk = (Ob.cells l ty mk).ung k := by
  subst e; exact ung_pl (fun δ => u8s_ren δ L) k ty mk
/-- At the end of a function: fewer blocks. -/
theorem keepOf {H : Hp} {K : V → Hp → Prop} {v v₀ : V} {n : Nat} (H₀ : Hp) (ds : List Nat) (h1 : v = v₀.ren (dsOf ds)) (h2 : Blks (dsOf ds) H 0 H₀)
    (h3 : (Nat.ble n H₀.length && Nat.beq ds.length H₀.length && nodupb ds && baseb ds n && frmOk H₀.length [(0, v₀)] && H₀.all (Ob.okb H₀.length)) = true) (h4 : K v₀ H₀) :
    ∃ v₀ H₀ ds, v = v₀.ren (dsOf ds) ∧ Blks (dsOf ds) H 0 H₀ ∧ (Nat.ble n H₀.length && Nat.beq ds.length H₀.length && nodupb ds && baseb ds n && frmOk H₀.length [(0, v₀)] && H₀.all (Ob.okb H₀.length)) = true ∧ K v₀ H₀ :=
  ⟨v₀, H₀, ds, h1, h2, h3, h4⟩
/-- The loops of a code, in order; one of a function. -/
def loopsOf : Code → List Code
  | .seq a b => loopsOf a ++ loopsOf b
  | .cond _ a b => loopsOf a ++ loopsOf b
  | .block _ a => loopsOf a
  | .loop a => a :: loopsOf a
  | _ => []
def theLoop (f : Func) (n : Nat) : Code := match f.body with
  | some c => (loopsOf c).getD n .skip
  | none => .skip
end Go.Eng
