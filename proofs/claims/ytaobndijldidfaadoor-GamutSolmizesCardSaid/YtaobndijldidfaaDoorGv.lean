/- The plain law: sol is a solmization with muts mutations, and none has fewer; the reverse, the join, the octave. -/
import Derived.Test.YtaobndijldidfaaDoorGi
set_option linter.unusedSimpArgs false
set_option linter.unusedVariables false
namespace Go.Proofs.YtaobndijldidfaaDoor
open Go.RowKit

/-- The lexical order of costs. -/
def lle (c d : Cp) : Prop := c.1 < d.1 ∨ (c.1 = d.1 ∧ c.2 ≤ d.2)
theorem lle_refl (c : Cp) : lle c c := .inr ⟨rfl, Int.le_refl _⟩
theorem lle_trans {a b c : Cp} (h : lle a b) (k : lle b c) : lle a c := by unfold lle at *; omega
theorem lle_add {a b : Cp} (h : lle a b) (c : Cp) : lle (addC c a) (addC c b) := by unfold lle addC at *; dsimp only; omega
theorem lx_true {c d : Cp} (h : lx c d = true) : lle c d := by
  unfold lx at h; unfold lle
  split at h
  · exact .inl (of_decide_eq_true h)
  · next h1 => exact .inr ⟨by simpa using h1, Int.le_of_lt (of_decide_eq_true h)⟩
theorem lx_false {c d : Cp} (h : lx c d = false) : lle d c := by
  unfold lx at h; unfold lle
  split at h
  · next h1 => have := of_decide_eq_false h; omega
  · next h1 =>
    have h2 := of_decide_eq_false h
    have h3 : c.1 = d.1 := by simpa using h1
    exact .inr ⟨h3.symm, by omega⟩
theorem pfold_le (f : Sy → Cp) : ∀ (l : List Sy) (c : Sy), lle (f (l.foldl (pstep f) c)) (f c) ∧ ∀ t ∈ l, lle (f (l.foldl (pstep f) c)) (f t)
  | [], c => ⟨lle_refl _, fun t h => by cases h⟩
  | x :: l, c => by
    rw [List.foldl_cons]
    obtain ⟨h1, h2⟩ := pfold_le f l (pstep f c x)
    have h3 : lle (f (pstep f c x)) (f c) ∧ lle (f (pstep f c x)) (f x) := by
      unfold pstep
      cases h : lx (f x) (f c) with
      | true => exact ⟨lx_true h, lle_refl _⟩
      | false => exact ⟨lle_refl _, lx_false h⟩
    refine ⟨lle_trans h1 h3.1, fun t ht => ?_⟩
    rcases List.mem_cons.1 ht with rfl | ht
    · exact lle_trans h1 h3.2
    · exact h2 t ht
theorem pck_le (f : Sy → Cp) : ∀ (ts : List Sy), ∀ t ∈ ts, lle (f (pck f ts)) (f t)
  | [], t, h => by cases h
  | x :: l, t, h => by
    obtain ⟨h1, h2⟩ := pfold_le f l x
    rcases List.mem_cons.1 h with rfl | h
    · exact h1
    · exact h2 t h
theorem mn_pfold (f : Sy → Cp) : ∀ (l : List Sy) (c : Sy), l.foldl (mstep f) (some (f c)) = some (f (l.foldl (pstep f) c))
  | [], _ => rfl
  | x :: l, c => by
    rw [List.foldl_cons, List.foldl_cons]
    have : mstep f (some (f c)) x = some (f (pstep f c x)) := by
      unfold mstep pstep
      dsimp only
      cases lx (f x) (f c) <;> rfl
    rw [this, mn_pfold f l]
theorem mn_pck (f : Sy → Cp) (ts : List Sy) (h : ts ≠ []) : mn f ts = some (f (pck f ts)) := by
  cases ts with
  | nil => exact absurd rfl h
  | cons x l =>
    show (x :: l).foldl (mstep f) none = _
    rw [List.foldl_cons]
    exact mn_pfold f l x

/-- What a list of ways costs behind the way before. -/
def stepC (prev : Option Sy) (x : Sy) : Cp :=
  match prev with
  | none => (0, 0)
  | some p => stp p x
def pathC : Option Sy → List Sy → Cp
  | _, [] => (0, 0)
  | prev, x :: r => addC (stepC prev x) (pathC (some x) r)
/-- O takes one way of each list. -/
def Choice : List Sy → List (List Sy) → Prop
  | [], [] => True
  | x :: r, ts :: rest => x ∈ ts ∧ Choice r rest
  | _, _ => False
def Full (ws : List (List Sy)) : Prop := ∀ ts ∈ ws, ts ≠ []
theorem addC_comm (a b : Cp) : addC a b = addC b a := by unfold addC; rw [Int.add_comm, Int.add_comm a.2]
theorem addC_zero (a : Cp) : addC (0, 0) a = a := by unfold addC; simp
theorem sol_choice : ∀ (prev : Option Sy) (ws : List (List Sy)), Full ws → Choice (sol prev ws) ws
  | _, [], _ => trivial
  | prev, ts :: rest, h => ⟨pck_mem _ _ (h ts (by simp)), sol_choice _ rest (fun t ht => h t (by simp [ht]))⟩
theorem rst_path : ∀ (rest : List (List Sy)) (s : Sy), Full rest → rst rest s = pathC (some s) (sol (some s) rest)
  | [], _, _ => rfl
  | ts :: rest, s, h => by
    have hr : Full rest := fun t ht => h t (by simp [ht])
    have e : rst (ts :: rest) s = (mn (key (some s) rest) ts).getD (0, 0) := rfl
    rw [e, mn_pck _ _ (h ts (by simp))]
    show key (some s) rest (pck (key (some s) rest) ts) = addC (stp s (pck (key (some s) rest) ts)) (pathC (some (pck (key (some s) rest) ts)) (sol (some (pck (key (some s) rest) ts)) rest))
    rw [← rst_path rest _ hr, addC_comm]
    rfl
theorem key_step (prev : Option Sy) (rest : List (List Sy)) (x : Sy) : key prev rest x = addC (stepC prev x) (rst rest x) := by
  cases prev with
  | none => exact (addC_zero _).symm
  | some p => exact addC_comm _ _
theorem sol_best : ∀ (prev : Option Sy) (ws : List (List Sy)) (O : List Sy), Full ws → Choice O ws → lle (pathC prev (sol prev ws)) (pathC prev O)
  | _, [], [], _, _ => lle_refl _
  | _, [], _ :: _, _, h => h.elim
  | _, _ :: _, [], _, h => h.elim
  | prev, ts :: rest, x :: r, hf, hc => by
    have hr : Full rest := fun t ht => hf t (by simp [ht])
    have ih := sol_best (some x) rest r hr hc.2
    rw [← rst_path rest x hr] at ih
    have h1 : lle (key prev rest x) (pathC prev (x :: r)) := by
      rw [key_step]
      exact lle_add ih _
    have h2 := pck_le (key prev rest) ts x hc.1
    have h3 : pathC prev (sol prev (ts :: rest)) = key prev rest (pck (key prev rest) ts) := by
      rw [key_step]
      show addC _ (pathC (some (pck (key prev rest) ts)) (sol (some (pck (key prev rest) ts)) rest)) = _
      rw [← rst_path rest _ hr]
    rw [h3]
    exact lle_trans h2 h1
/-- The number of changes of the hexachord. -/
def movesN : List Sy → Int
  | [] => 0
  | [_] => 0
  | x :: y :: r => (if x.1 = y.1 then 0 else 1) + movesN (y :: r)
theorem stp_one (x y : Sy) : (stp x y).1 = if x.1 = y.1 then 0 else 1 := by
  unfold stp
  split
  · rfl
  · split <;> rfl
theorem path_moves : ∀ (r : List Sy) (x : Sy), (pathC (some x) r).1 = movesN (x :: r)
  | [], _ => rfl
  | y :: r, x => by
    show (stp x y).1 + (pathC (some y) r).1 = _
    rw [path_moves r y, stp_one]
    rfl
theorem path_none (O : List Sy) : (pathC none O).1 = movesN O := by
  cases O with
  | nil => rfl
  | cons x r =>
    show 0 + (pathC (some x) r).1 = _
    rw [path_moves, Int.zero_add]
theorem muts_path (ws : List (List Sy)) (h : Full ws) : muts ws = movesN (sol none ws) := by
  cases ws with
  | nil => rfl
  | cons ts rest =>
    have hr : Full rest := fun t ht => h t (by simp [ht])
    rw [← path_none]
    show (rst rest (pck (key none rest) ts)).1 = 0 + (pathC (some (pck (key none rest) ts)) (sol (some (pck (key none rest) ts)) rest)).1
    rw [← rst_path rest _ hr, Int.zero_add]
theorem muts_least (ws : List (List Sy)) (h : Full ws) (O : List Sy) (hc : Choice O ws) : muts ws ≤ movesN O := by
  have := sol_best none ws O h hc
  rw [muts_path ws h, ← path_none, ← path_none]
  unfold lle at this
  omega

/-- Two lists, one behind the other. -/
def turn (A B : List Sy) : Int :=
  match A.getLast?, B with
  | some x, y :: _ => if x.1 = y.1 then 0 else 1
  | _, _ => 0
theorem turn_bd (A B : List Sy) : 0 ≤ turn A B ∧ turn A B ≤ 1 := by
  unfold turn
  split
  · split <;> omega
  · omega
theorem moves_app : ∀ A B : List Sy, movesN (A ++ B) = movesN A + movesN B + turn A B
  | [], B => by simp [movesN, turn]
  | [x], [] => by simp [movesN, turn]
  | [x], y :: B => by
    show (if x.1 = y.1 then 0 else 1) + movesN (y :: B) = 0 + movesN (y :: B) + (if x.1 = y.1 then 0 else 1)
    omega
  | x :: y :: A, B => by
    have ih := moves_app (y :: A) B
    have e : turn (x :: y :: A) B = turn (y :: A) B := by unfold turn; simp [List.getLast?]
    rw [e]
    show (if x.1 = y.1 then 0 else 1) + movesN (y :: A ++ B) = (if x.1 = y.1 then 0 else 1) + movesN (y :: A) + movesN B + turn (y :: A) B
    rw [ih]
    omega
theorem moves_rev : ∀ A : List Sy, movesN A.reverse = movesN A
  | [] => rfl
  | [x] => rfl
  | x :: y :: A => by
    have ih := moves_rev (y :: A)
    rw [List.reverse_cons, moves_app, ih]
    have e : turn (y :: A).reverse [x] = if x.1 = y.1 then 0 else 1 := by
      unfold turn
      simp only [List.getLast?_reverse, List.head?_cons]
      by_cases h : x.1 = y.1
      · rw [if_pos h, if_pos h.symm]
      · rw [if_neg h, if_neg (fun e => h e.symm)]
    rw [e]
    show movesN (y :: A) + 0 + _ = _ + movesN (y :: A)
    omega
theorem choice_len : ∀ {O : List Sy} {ws : List (List Sy)}, Choice O ws → O.length = ws.length
  | [], [], _ => rfl
  | [], _ :: _, h => h.elim
  | _ :: _, [], h => h.elim
  | _ :: r, _ :: rest, h => by simp [choice_len h.2]
theorem choice_app : ∀ {A B : List Sy} {us vs : List (List Sy)}, Choice A us → Choice B vs → Choice (A ++ B) (us ++ vs)
  | [], _, [], _, _, h => h
  | [], _, _ :: _, _, h, _ => h.elim
  | _ :: _, _, [], _, h, _ => h.elim
  | _ :: _, _, _ :: _, _, h, k => ⟨h.1, choice_app h.2 k⟩
theorem choice_split : ∀ {us vs : List (List Sy)} {O : List Sy}, Choice O (us ++ vs) → ∃ A B, O = A ++ B ∧ Choice A us ∧ Choice B vs
  | [], vs, O, h => ⟨[], O, rfl, trivial, h⟩
  | u :: us, vs, [], h => h.elim
  | u :: us, vs, x :: r, h => by
    obtain ⟨A, B, e, ha, hb⟩ := choice_split (us := us) h.2
    exact ⟨x :: A, B, by rw [e]; rfl, ⟨h.1, ha⟩, hb⟩
theorem choice_rev : ∀ {O : List Sy} {ws : List (List Sy)}, Choice O ws → Choice O.reverse ws.reverse
  | [], [], _ => trivial
  | [], _ :: _, h => h.elim
  | _ :: _, [], h => h.elim
  | x :: r, t :: rest, h => by
    rw [List.reverse_cons, List.reverse_cons]
    exact choice_app (choice_rev h.2) ⟨h.1, trivial⟩
theorem full_rev {ws : List (List Sy)} (h : Full ws) : Full ws.reverse := fun t ht => h t (by simpa using ht)
theorem full_app {us vs : List (List Sy)} (h : Full us) (k : Full vs) : Full (us ++ vs) := fun t ht => by
  rcases List.mem_append.1 ht with e | e
  · exact h t e
  · exact k t e
theorem muts_rev (ws : List (List Sy)) (h : Full ws) : muts ws.reverse = muts ws := by
  have h1 := muts_least ws.reverse (full_rev h) _ (choice_rev (sol_choice none ws h))
  rw [moves_rev, ← muts_path ws h] at h1
  have h2 := muts_least ws h (sol none ws.reverse).reverse (by
    have := choice_rev (sol_choice none ws.reverse (full_rev h))
    rwa [List.reverse_reverse] at this)
  rw [moves_rev, ← muts_path _ (full_rev h)] at h2
  omega
theorem muts_join (us vs : List (List Sy)) (h : Full us) (k : Full vs) : muts us + muts vs ≤ muts (us ++ vs) ∧ muts (us ++ vs) ≤ muts us + muts vs + 1 := by
  constructor
  · obtain ⟨A, B, e, ha, hb⟩ := choice_split (sol_choice none (us ++ vs) (full_app h k))
    rw [muts_path _ (full_app h k), e, moves_app]
    have h1 := muts_least us h A ha
    have h2 := muts_least vs k B hb
    have := turn_bd A B
    omega
  · have h1 := muts_least (us ++ vs) (full_app h k) _ (choice_app (sol_choice none us h) (sol_choice none vs k))
    rw [moves_app, ← muts_path us h, ← muts_path vs k] at h1
    have := turn_bd (sol none us) (sol none vs)
    omega

/-- An octave higher. -/
def up (p : Pt) : Pt := (p.1, p.2.1 + 1, p.2.2)
def sh (x : Sy) : Sy := (x.1 + 3, x.2)
theorem mem_all : ((List.range 7).all fun h => (List.range 6).all fun s => (wys (pitS (((h + 1 : Nat) : Int), ((s + 1 : Nat) : Int)))).contains ((((h + 1 : Nat) : Int), ((s + 1 : Nat) : Int)) : Sy)) = true := by decide +kernel
theorem mem_wys {x : Sy} (h : Vs x.1 x.2) : x ∈ wys (pitS x) := by
  obtain ⟨a, b⟩ := x
  obtain ⟨h1, h2, h3, h4⟩ := h
  dsimp only at h1 h2 h3 h4
  have m := List.all_eq_true.1 mem_all (a.toNat - 1) (List.mem_range.2 (by omega))
  have m2 := List.all_eq_true.1 m (b.toNat - 1) (List.mem_range.2 (by omega))
  have e1 : ((a.toNat - 1 + 1 : Nat) : Int) = a := by omega
  have e2 : ((b.toNat - 1 + 1 : Nat) : Int) = b := by omega
  rw [e1, e2] at m2
  simpa using m2
theorem choice_self : ∀ (O : List Sy), (∀ x ∈ O, Vs x.1 x.2) → Choice O ((O.map pitS).map wys)
  | [], _ => trivial
  | x :: r, h => ⟨mem_wys (h x (by simp)), choice_self r (fun y hy => h y (by simp [hy]))⟩
theorem pit_good {O : List Sy} (h : ∀ x ∈ O, Vs x.1 x.2) : ∀ p ∈ O.map pitS, Vp p.1 p.2.1 p.2.2 ∧ wys p ≠ [] := by
  intro p hp
  obtain ⟨x, hx, rfl⟩ := List.mem_map.1 hp
  exact ⟨(pit_ok (h x hx)).1, fun e => by have := mem_wys (h x hx); rw [e] at this; cases this⟩
theorem full_of {ps : List Pt} (h : ∀ p ∈ ps, Vp p.1 p.2.1 p.2.2 ∧ wys p ≠ []) : Full (ps.map wys) := by
  intro ts ht
  obtain ⟨p, hp, rfl⟩ := List.mem_map.1 ht
  exact (h p hp).2
theorem choice_pit : ∀ {O : List Sy} {ps : List Pt}, Choice O (ps.map wys) → O.map pitS = ps ∧ ∀ x ∈ O, Vs x.1 x.2
  | [], [], _ => ⟨rfl, fun x h => by cases h⟩
  | [], _ :: _, h => h.elim
  | _ :: _, [], h => h.elim
  | x :: r, p :: ps, h => by
    obtain ⟨e, hv⟩ := choice_pit (ps := ps) h.2
    obtain ⟨v, ep⟩ := wys_mem h.1
    refine ⟨by rw [List.map_cons, e, ep], fun y hy => ?_⟩
    rcases List.mem_cons.1 hy with rfl | hy
    · exact v
    · exact hv y hy
theorem pit_sh {x : Sy} (h : Vs x.1 x.2) (h4 : x.1 ≤ 4) : pitS (sh x) = up (pitS x) ∧ Vs (sh x).1 (sh x).2 := by
  obtain ⟨a, b⟩ := x
  obtain ⟨h1, h2, h3, h5⟩ := h
  dsimp only at h1 h2 h3 h5 h4
  have hc : a = 1 ∨ a = 2 ∨ a = 3 ∨ a = 4 := by omega
  refine ⟨?_, by unfold sh Vs; dsimp only; omega⟩
  have e1 : numS (a + 3) b = numS a b + 7 := by
    rcases hc with rfl | rfl | rfl | rfl
    all_goals
      unfold numS startN
      simp
      omega
  have e2 : altS (a + 3) b = altS a b := by
    rcases hc with rfl | rfl | rfl | rfl
    all_goals
      unfold altS
      simp
  unfold pitS sh up
  dsimp only
  rw [e1, e2]
  refine Prod.ext ?_ (Prod.ext ?_ rfl)
  · dsimp only; omega
  · dsimp only; omega
theorem moves_sh : ∀ O : List Sy, movesN (O.map sh) = movesN O
  | [] => rfl
  | [_] => rfl
  | x :: y :: r => by
    have ih := moves_sh (y :: r)
    have e : (if (sh x).1 = (sh y).1 then (0 : Int) else 1) = if x.1 = y.1 then 0 else 1 := by
      unfold sh; dsimp only
      by_cases h : x.1 = y.1
      · rw [if_pos h, if_pos (by omega)]
      · rw [if_neg h, if_neg (by omega)]
    show (if (sh x).1 = (sh y).1 then (0 : Int) else 1) + movesN ((y :: r).map sh) = _
    rw [ih, e]
    rfl
theorem octave_law (ps : List Pt) (h : ∀ p ∈ ps, Vp p.1 p.2.1 p.2.2 ∧ wys p ≠ []) (h4 : ∀ x ∈ sol none (ps.map wys), x.1 ≤ 4) :
    (∀ p ∈ ps.map up, Vp p.1 p.2.1 p.2.2 ∧ wys p ≠ []) ∧ muts ((ps.map up).map wys) ≤ muts (ps.map wys) := by
  have hf := full_of h
  obtain ⟨e, hv⟩ := choice_pit (sol_choice none _ hf)
  obtain ⟨S, eS⟩ : ∃ S, S = sol none (ps.map wys) := ⟨_, rfl⟩
  have hm := muts_path _ hf
  rw [← eS] at h4 e hv hm
  have e2 : ps.map up = (S.map sh).map pitS := by
    rw [← e, List.map_map, List.map_map]
    refine List.map_congr_left fun x hx => ?_
    exact (pit_sh (hv x hx) (h4 x hx)).1.symm
  have hv2 : ∀ x ∈ S.map sh, Vs x.1 x.2 := by
    intro y hy
    obtain ⟨x, hx, rfl⟩ := List.mem_map.1 hy
    exact (pit_sh (hv x hx) (h4 x hx)).2
  have hg : ∀ p ∈ ps.map up, Vp p.1 p.2.1 p.2.2 ∧ wys p ≠ [] := by rw [e2]; exact pit_good hv2
  refine ⟨hg, ?_⟩
  have h1 := muts_least ((ps.map up).map wys) (full_of hg) (S.map sh) (by rw [e2]; exact choice_self _ hv2)
  rw [moves_sh] at h1
  rw [hm]
  exact h1
end Go.Proofs.YtaobndijldidfaaDoor
