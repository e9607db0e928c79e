/- The group's order: n times any point is the identity. -/

import Derived.Test.YtfappeeggccicaaDoorSyHa

set_option linter.unusedVariables false

set_option linter.unusedSimpArgs false

namespace Go.Sy

open Go

abbrev J3n := Nat × Nat × Nat

def mP (a b : Nat) : Nat := a * b % prP

def sP (a b : Nat) : Nat := (a + (prP - b % prP) % prP) % prP

def dblN (j : J3n) : J3n := bif Nat.beq j.2.2 0 then j else
  (sP (sP (mP (mP 3 (mP j.1 j.1)) (mP 3 (mP j.1 j.1))) (mP 4 (mP j.1 (mP j.2.1 j.2.1)))) (mP 4 (mP j.1 (mP j.2.1 j.2.1))),
   sP (mP (mP 3 (mP j.1 j.1)) (sP (mP 4 (mP j.1 (mP j.2.1 j.2.1))) (sP (sP (mP (mP 3 (mP j.1 j.1)) (mP 3 (mP j.1 j.1))) (mP 4 (mP j.1 (mP j.2.1 j.2.1)))) (mP 4 (mP j.1 (mP j.2.1 j.2.1)))))) (mP 8 (mP (mP j.2.1 j.2.1) (mP j.2.1 j.2.1))),
   mP 2 (mP j.2.1 j.2.2))

def hN (j : J3n) : Nat := sP (mP gN.1 (mP j.2.2 j.2.2)) j.1

def rN (j : J3n) : Nat := sP (mP gN.2.1 (mP j.2.2 (mP j.2.2 j.2.2))) j.2.1

def xN (j : J3n) : Nat := sP (sP (sP (mP (rN j) (rN j)) (mP (hN j) (mP (hN j) (hN j)))) (mP j.1 (mP (hN j) (hN j)))) (mP j.1 (mP (hN j) (hN j)))

def addN (j : J3n) : J3n := bif Nat.beq j.2.2 0 then (gN.1, gN.2.1, 1) else
  bif Nat.beq (hN j) 0 then (bif Nat.beq (rN j) 0 then dblN j else (0, 0, 0)) else
  (xN j, sP (mP (rN j) (sP (mP j.1 (mP (hN j) (hN j))) (xN j))) (mP j.2.1 (mP (hN j) (mP (hN j) (hN j)))), mP (hN j) j.2.2)

theorem toF_mP (a b : Nat) : toF (mP a b) = toF a * toF b := toF_mulm a b

theorem toF_sP (a b : Nat) : toF (sP a b) = toF a - toF b := toF_subm a b

theorem beq0 (a : Nat) : Nat.beq a 0 = decide (a = 0) := by cases a <;> rfl

theorem dblN_ok {j : J3n} {P : Pt} (hP : PtOk P) (h : JN j P) : JN (dblN j) (padd P P) := by
  unfold dblN
  cases P with
  | none => rw [JN_none h]; exact h
  | some p =>
    have hz := JN_some h
    rw [beq0, decide_eq_false hz]
    obtain ⟨g1, g2, g3, g4, g5, g6⟩ := h
    obtain ⟨X, Y, Z⟩ := j
    refine ⟨lt_p _, lt_p _, lt_p _, ?_⟩
    have n2 : toF 2 = 2 := rfl
    have n3 : toF 3 = 3 := rfl
    have n4 : toF 4 = 4 := rfl
    have n8 : toF 8 = 8 := rfl
    refine JF_dbl hP g4 g5 g6 ?_ ?_ ?_ <;> simp only [cond_false, toF_mP, toF_sP, n2, n3, n4, n8] <;> generalize toF X = a <;> generalize toF Y = b <;> generalize toF Z = c <;> grind

theorem addN_ok {j : J3n} {P : Pt} (hP : PtOk P) (h : JN j P) : JN (addN j) (padd P gP) := by
  have hG : JN (gN.1, gN.2.1, 1) gP := by
    refine ⟨by decide, by decide, by decide, ?_⟩
    show JF (toF gN.1) (toF gN.2.1) (toF 1) (some (toF gN.1, toF gN.2.1))
    have e1 : toF 1 = (1 : FP) := rfl
    rw [e1]
    exact ⟨one_ne, by grind, by grind⟩
  have hg : gP = some (toF gN.1, toF gN.2.1) := rfl
  unfold addN
  cases P with
  | none => rw [JN_none h]; exact hG
  | some p =>
    have hz := JN_some h
    rw [beq0, decide_eq_false hz]
    show JN (bif Nat.beq (hN j) 0 then (bif Nat.beq (rN j) 0 then dblN j else (0, 0, 0)) else _) _
    have hd := dblN_ok hP h
    have h' := h
    obtain ⟨g1, g2, g3, g4, g5, g6⟩ := h
    have hGok := gP_ok
    rw [hg] at hGok
    have hsame := JF_same (X2 := toF gN.1) (Y2 := toF gN.2.1) (Z2 := 1) (q := (toF gN.1, toF gN.2.1)) g4 g5 g6 one_ne (by grind) (by grind)
    have ex : hN j = 0 ↔ p.1 = toF gN.1 := by
      rw [← hsame.1, ← toF_zero (show hN j < prP from lt_p _)]
      unfold hN
      rw [toF_sP, toF_mP, toF_mP]
      grind
    have ey : rN j = 0 ↔ p.2 = toF gN.2.1 := by
      rw [← hsame.2, ← toF_zero (show rN j < prP from lt_p _)]
      unfold rN
      rw [toF_sP, toF_mP, toF_mP, toF_mP]
      grind
    rw [beq0, beq0]
    by_cases hx : p.1 = toF gN.1
    · rw [decide_eq_true (ex.2 hx)]
      by_cases hy : p.2 = toF gN.2.1
      · rw [decide_eq_true (ey.2 hy)]
        have e : p = (toF gN.1, toF gN.2.1) := Prod.ext hx hy
        rw [hg, ← e]
        exact hd
      · rw [decide_eq_false (fun e => hy (ey.1 e))]
        have : padd (some p) gP = none := by
          rw [hg]
          by_cases hn : p.1 = toF gN.1 ∧ toF gN.2.1 = -p.2
          · exact padd_opp hn
          · exfalso
            obtain ⟨d, k1, k2, k3⟩ := add_data (q := (toF gN.1, toF gN.2.1)) hP hGok hn
            simp only at k1 k2
            have hd : d = 0 := by rw [← hx] at k1; grind
            subst hd
            exact hy (by rw [k2]; grind)
        rw [this]
        exact JN_zero
    · rw [decide_eq_false (fun e => hx (ex.1 e)), hg]
      refine ⟨lt_p _, lt_p _, lt_p _, ?_⟩
      refine JF_add (X2 := toF gN.1) (Y2 := toF gN.2.1) (Z2 := 1) (q := (toF gN.1, toF gN.2.1)) hP hGok g4 g5 g6 one_ne (by grind) (by grind) hx rfl rfl rfl rfl ?_ ?_ ?_ <;> simp only [cond_false, xN, hN, rN, toF_mP, toF_sP] <;> generalize toF j.1 = a <;> generalize toF j.2.1 = b <;> generalize toF j.2.2 = c <;> generalize toF gN.1 = e <;> generalize toF gN.2.1 = f <;> grind

def stepsN : List Bool → J3n → J3n
  | [], s => s
  | b :: l, s => stepsN l (bif b then addN (dblN s) else dblN s)

def valBits : List Bool → Nat → Nat
  | [], m => m
  | b :: l, m => valBits l (bif b then 2 * m + 1 else 2 * m)

def sameJ (a b : J3n) : Bool := Nat.beq a.1 b.1 && (Nat.beq a.2.1 b.2.1 && Nat.beq a.2.2 b.2.2)

theorem stepsN_ok : ∀ (l : List Bool) (s : J3n) (m : Nat), JN s (smul m gP) → JN (stepsN l s) (smul (valBits l m) gP)
  | [], s, m, h => h
  | b :: l, s, m, h => by
    have ok := smul_ok gP_ok
    have h1 := dblN_ok (ok m) h
    have e : padd (smul m gP) (smul m gP) = smul (2 * m) gP := by rw [← smul_add gP_ok, Nat.two_mul]
    rw [e] at h1
    cases b with
    | false => exact stepsN_ok l _ _ h1
    | true => exact stepsN_ok l _ _ (addN_ok (ok _) h1)

theorem steps_lit {l : List Bool} {s t : J3n} {m k : Nat} (hs : sameJ (stepsN l s) t = true) (h : JN s (smul m gP)) (hk : Nat.beq (valBits l m) k = true) : JN t (smul k gP) := by
  have := stepsN_ok l s m h
  rw [Nat.eq_of_beq_eq_true hk] at this
  simp only [sameJ, Bool.and_eq_true] at hs
  have e : stepsN l s = t := Prod.ext (Nat.eq_of_beq_eq_true hs.1) (Prod.ext (Nat.eq_of_beq_eq_true hs.2.1) (Nat.eq_of_beq_eq_true hs.2.2))
  rw [← e]; exact this

theorem chunk0 : sameJ (stepsN [true, true, true, true, true, true, true, true, true, true, true, true, true, true, true, true] (0, 0, 0)) (20615289901169110551870680976060786970527407131220637215665270163181410268928, 26544356157483545431286805102135118327832908214302970444099596941014416959596, 26274429000862157908054316132600288153756937081221724822908903768037776600946) = true := by kernel_rfl

theorem chunk1 : sameJ (stepsN [true, true, true, true, true, true, true, true, true, true, true, true, true, true, true, true] (20615289901169110551870680976060786970527407131220637215665270163181410268928, 26544356157483545431286805102135118327832908214302970444099596941014416959596, 26274429000862157908054316132600288153756937081221724822908903768037776600946)) (47850635520784275567954454544784760848881066823409488448735548230763286694203, 93819935194781330815433756813794005446310741363086092816291474762361880521385, 97115856964596430594413283758527355423191250266282211051293021792540003861230) = true := by kernel_rfl

theorem chunk2 : sameJ (stepsN [true, true, true, true, true, true, true, true, true, true, true, true, true, true, true, true] (47850635520784275567954454544784760848881066823409488448735548230763286694203, 93819935194781330815433756813794005446310741363086092816291474762361880521385, 97115856964596430594413283758527355423191250266282211051293021792540003861230)) (67674265873462460006260527066892726840905120787415415036532147932456601998514, 36867697934265072464811801130898904968972185614458807989585498966071800777030, 68388201086063320703577712499284922314137047464457203952896789547756630352811) = true := by kernel_rfl

theorem chunk3 : sameJ (stepsN [true, true, true, true, true, true, true, true, true, true, true, true, true, true, true, true] (67674265873462460006260527066892726840905120787415415036532147932456601998514, 36867697934265072464811801130898904968972185614458807989585498966071800777030, 68388201086063320703577712499284922314137047464457203952896789547756630352811)) (64579366475869651558900165266501954248691684545955134250833719132083697293161, 17410617546471807716801342264335755041670941777309122675578263844008232991374, 41452111945659813672717365499698994735690216437346368706532317517338920054495) = true := by kernel_rfl

theorem chunk4 : sameJ (stepsN [true, true, true, true, true, true, true, true, true, true, true, true, true, true, true, true] (64579366475869651558900165266501954248691684545955134250833719132083697293161, 17410617546471807716801342264335755041670941777309122675578263844008232991374, 41452111945659813672717365499698994735690216437346368706532317517338920054495)) (22459756281983081131652481325119073304579328707804856356653950107196316623898, 85334498065162330358306593183827892864574866367490189001415536461653602301559, 59720104486780659864649865837149680815764448249408341590148752122661367972354) = true := by kernel_rfl

theorem chunk5 : sameJ (stepsN [true, true, true, true, true, true, true, true, true, true, true, true, true, true, true, true] (22459756281983081131652481325119073304579328707804856356653950107196316623898, 85334498065162330358306593183827892864574866367490189001415536461653602301559, 59720104486780659864649865837149680815764448249408341590148752122661367972354)) (5215267292975397788301241550243447847653220862243480951701522362967388441324, 48962251812536654293410537515351655322888436543424267342650337297168342411658, 89680353018566262916129317786224598859018716227362298236836718372656621027537) = true := by kernel_rfl

theorem chunk6 : sameJ (stepsN [true, true, true, true, true, true, true, true, true, true, true, true, true, true, true, true] (5215267292975397788301241550243447847653220862243480951701522362967388441324, 48962251812536654293410537515351655322888436543424267342650337297168342411658, 89680353018566262916129317786224598859018716227362298236836718372656621027537)) (66055686673349713326479203730027720966407994516668115888318318199124901038715, 51650333150236113733101484427917533072199804561469749573814419484691277634833, 21820002556271353434667167162476465486469734054841003774365777170670083385270) = true := by kernel_rfl

theorem chunk7 : sameJ (stepsN [true, true, true, true, true, true, true, true, true, true, true, true, true, true, true, false] (66055686673349713326479203730027720966407994516668115888318318199124901038715, 51650333150236113733101484427917533072199804561469749573814419484691277634833, 21820002556271353434667167162476465486469734054841003774365777170670083385270)) (56369713041338357990884004317508561086434145731119320400334383530011137607539, 105245168437925709145994399066117592443203106474068944792041863325672208699073, 66685748808735955552758177086309973159192498395489432964789881912409301844919) = true := by kernel_rfl

theorem chunk8 : sameJ (stepsN [true, false, true, true, true, false, true, false, true, false, true, false, true, true, true, false] (56369713041338357990884004317508561086434145731119320400334383530011137607539, 105245168437925709145994399066117592443203106474068944792041863325672208699073, 66685748808735955552758177086309973159192498395489432964789881912409301844919)) (56715876589555352402325445253815821982256596340175287086144039083160355219789, 108278877629789199605601435325832072809730658851427882917013789178058868246547, 90975901576351727661405519847960120560992963127917413697891296930574914759010) = true := by kernel_rfl

theorem chunk9 : sameJ (stepsN [true, true, false, true, true, true, false, false, true, true, true, false, false, true, true, false] (56715876589555352402325445253815821982256596340175287086144039083160355219789, 108278877629789199605601435325832072809730658851427882917013789178058868246547, 90975901576351727661405519847960120560992963127917413697891296930574914759010)) (28582797481525630212336068430379825316300190215339912044264751708945965337995, 1748122704436546361248432681635461984628136707077943377440980103992509357326, 14511532726561283976976980306611085275896346125084049573684179116608363522851) = true := by kernel_rfl

theorem chunk10 : sameJ (stepsN [true, false, true, false, true, true, true, true, false, true, false, false, true, false, false, false] (28582797481525630212336068430379825316300190215339912044264751708945965337995, 1748122704436546361248432681635461984628136707077943377440980103992509357326, 14511532726561283976976980306611085275896346125084049573684179116608363522851)) (64765401021007152518070331158604494367544815165583285896602477564966687054924, 26413698628425452269577378212982077564786629807492987455086984404199253893854, 28537856041152848557196147355279713675020840368969879085983276227494555287782) = true := by kernel_rfl

theorem chunk11 : sameJ (stepsN [true, false, true, false, false, false, false, false, false, false, true, true, true, false, true, true] (64765401021007152518070331158604494367544815165583285896602477564966687054924, 26413698628425452269577378212982077564786629807492987455086984404199253893854, 28537856041152848557196147355279713675020840368969879085983276227494555287782)) (39728933411044610813695708931503623868781264243521836127164031710703722218822, 37289750232136454225687927934200279680487353364793934736066510882712417780143, 26542172997625569306627056615309923458256593411805327491368718637889561701945) = true := by kernel_rfl

theorem chunk12 : sameJ (stepsN [true, false, true, true, true, true, true, true, true, true, false, true, false, false, true, false] (39728933411044610813695708931503623868781264243521836127164031710703722218822, 37289750232136454225687927934200279680487353364793934736066510882712417780143, 26542172997625569306627056615309923458256593411805327491368718637889561701945)) (45658516013367744355521601078672063567145940757382758549315136493651651915920, 99688681036233890785491957406675697969050220579604793710222208501749481038026, 44700814402717211295133303860716038747533786110011006833034510940141298873776) = true := by kernel_rfl

theorem chunk13 : sameJ (stepsN [false, true, false, true, true, true, true, false, true, false, false, false, true, true, false, false] (45658516013367744355521601078672063567145940757382758549315136493651651915920, 99688681036233890785491957406675697969050220579604793710222208501749481038026, 44700814402717211295133303860716038747533786110011006833034510940141298873776)) (97320255224839805028002901866976559606533675173969854549746820045240956931735, 53374149755408376024171962502010874650101334878707971505612334686872292891617, 52012452562272498566719358547439183443208107140083680193059131870385183946214) = true := by kernel_rfl

theorem chunk14 : sameJ (stepsN [true, true, false, true, false, false, false, false, false, false, true, true, false, true, true, false] (97320255224839805028002901866976559606533675173969854549746820045240956931735, 53374149755408376024171962502010874650101334878707971505612334686872292891617, 52012452562272498566719358547439183443208107140083680193059131870385183946214)) (69085274013243033719434563087530414250892400603496285514813940695758214160184, 49799994730575204366657807516661235262925852541882427698970698115354242791295, 92427930790130191312278185908546995708953095932711664136407461389427013496753) = true := by kernel_rfl

theorem chunk15 : sameJ (stepsN [false, true, false, false, false, false, false, true, false, true, false, false, false, false, false, true] (69085274013243033719434563087530414250892400603496285514813940695758214160184, 49799994730575204366657807516661235262925852541882427698970698115354242791295, 92427930790130191312278185908546995708953095932711664136407461389427013496753)) (0, 0, 0) = true := by kernel_rfl

theorem none_of {P : Pt} (h : JN ((0, 0, 0) : J3n) P) : P = none := by
  cases P with
  | none => rfl
  | some q => exact absurd rfl h.2.2.2.1

theorem order_G : smul ordN gP = none := by
  have h0 : JN ((0, 0, 0) : J3n) (smul 0 gP) := JN_zero
  have h1 : JN ((20615289901169110551870680976060786970527407131220637215665270163181410268928, 26544356157483545431286805102135118327832908214302970444099596941014416959596, 26274429000862157908054316132600288153756937081221724822908903768037776600946) : J3n) (smul 65535 gP) := steps_lit chunk0 h0 (by kernel_rfl)
  have h2 : JN ((47850635520784275567954454544784760848881066823409488448735548230763286694203, 93819935194781330815433756813794005446310741363086092816291474762361880521385, 97115856964596430594413283758527355423191250266282211051293021792540003861230) : J3n) (smul 4294967295 gP) := steps_lit chunk1 h1 (by kernel_rfl)
  have h3 : JN ((67674265873462460006260527066892726840905120787415415036532147932456601998514, 36867697934265072464811801130898904968972185614458807989585498966071800777030, 68388201086063320703577712499284922314137047464457203952896789547756630352811) : J3n) (smul 281474976710655 gP) := steps_lit chunk2 h2 (by kernel_rfl)
  have h4 : JN ((64579366475869651558900165266501954248691684545955134250833719132083697293161, 17410617546471807716801342264335755041670941777309122675578263844008232991374, 41452111945659813672717365499698994735690216437346368706532317517338920054495) : J3n) (smul 18446744073709551615 gP) := steps_lit chunk3 h3 (by kernel_rfl)
  have h5 : JN ((22459756281983081131652481325119073304579328707804856356653950107196316623898, 85334498065162330358306593183827892864574866367490189001415536461653602301559, 59720104486780659864649865837149680815764448249408341590148752122661367972354) : J3n) (smul 1208925819614629174706175 gP) := steps_lit chunk4 h4 (by kernel_rfl)
  have h6 : JN ((5215267292975397788301241550243447847653220862243480951701522362967388441324, 48962251812536654293410537515351655322888436543424267342650337297168342411658, 89680353018566262916129317786224598859018716227362298236836718372656621027537) : J3n) (smul 79228162514264337593543950335 gP) := steps_lit chunk5 h5 (by kernel_rfl)
  have h7 : JN ((66055686673349713326479203730027720966407994516668115888318318199124901038715, 51650333150236113733101484427917533072199804561469749573814419484691277634833, 21820002556271353434667167162476465486469734054841003774365777170670083385270) : J3n) (smul 5192296858534827628530496329220095 gP) := steps_lit chunk6 h6 (by kernel_rfl)
  have h8 : JN ((56369713041338357990884004317508561086434145731119320400334383530011137607539, 105245168437925709145994399066117592443203106474068944792041863325672208699073, 66685748808735955552758177086309973159192498395489432964789881912409301844919) : J3n) (smul 340282366920938463463374607431768211454 gP) := steps_lit chunk7 h7 (by kernel_rfl)
  have h9 : JN ((56715876589555352402325445253815821982256596340175287086144039083160355219789, 108278877629789199605601435325832072809730658851427882917013789178058868246547, 90975901576351727661405519847960120560992963127917413697891296930574914759010) : J3n) (smul 22300745198530623141535718272648361505897134 gP) := steps_lit chunk8 h8 (by kernel_rfl)
  have h10 : JN ((28582797481525630212336068430379825316300190215339912044264751708945965337995, 1748122704436546361248432681635461984628136707077943377440980103992509357326, 14511532726561283976976980306611085275896346125084049573684179116608363522851) : J3n) (smul 1461501637330902918203684832716283019650474630374 gP) := steps_lit chunk9 h9 (by kernel_rfl)
  have h11 : JN ((64765401021007152518070331158604494367544815165583285896602477564966687054924, 26413698628425452269577378212982077564786629807492987455086984404199253893854, 28537856041152848557196147355279713675020840368969879085983276227494555287782) : J3n) (smul 95780971304118053647396689196894323975813505376235336 gP) := steps_lit chunk10 h10 (by kernel_rfl)
  have h12 : JN ((39728933411044610813695708931503623868781264243521836127164031710703722218822, 37289750232136454225687927934200279680487353364793934736066510882712417780143, 26542172997625569306627056615309923458256593411805327491368718637889561701945) : J3n) (smul 6277101735386680763835789423207666416078913888336959021115 gP) := steps_lit chunk11 h11 (by kernel_rfl)
  have h13 : JN ((45658516013367744355521601078672063567145940757382758549315136493651651915920, 99688681036233890785491957406675697969050220579604793710222208501749481038026, 44700814402717211295133303860716038747533786110011006833034510940141298873776) : J3n) (smul 411376139330301510538742295639337626244147700586050946407841746 gP) := steps_lit chunk12 h12 (by kernel_rfl)
  have h14 : JN ((97320255224839805028002901866976559606533675173969854549746820045240956931735, 53374149755408376024171962502010874650101334878707971505612334686872292891617, 52012452562272498566719358547439183443208107140083680193059131870385183946214) : J3n) (smul 26959946667150639794667015087019630673536463705607434823784316690060 gP) := steps_lit chunk13 h13 (by kernel_rfl)
  have h15 : JN ((69085274013243033719434563087530414250892400603496285514813940695758214160184, 49799994730575204366657807516661235262925852541882427698970698115354242791295, 92427930790130191312278185908546995708953095932711664136407461389427013496753) : J3n) (smul 1766847064778384329583297500742918515820885685410688848611528978599825462 gP) := steps_lit chunk14 h14 (by kernel_rfl)
  exact none_of (steps_lit (k := ordN) chunk15 h15 (by kernel_rfl))

theorem gP_ne : gP ≠ none := fun h => by cases h

theorem ordN_pos : 0 < ordN := by decide

theorem smul_modn {P : Pt} (hP : PtOk P) (h : smul ordN P = none) (k : Nat) : smul (k % ordN) P = smul k P := by
  have e : smul k P = smul (ordN * (k / ordN) + k % ordN) P := by rw [Nat.div_add_mod]
  rw [e, smul_add hP, smul_mul hP, h, smul_none, none_padd]

theorem smul_ne {k : Nat} (h0 : 0 < k) (hk : k < ordN) : smul k gP ≠ none := fun h => by
  have hm : k % modK 1 ≠ 0 := by
    show k % ordN ≠ 0
    rw [Nat.mod_eq_of_lt hk]; omega
  have h1 := inv_mul 1 hm
  have e1 : smul (k * (k ^ (modK 1 - 2) % modK 1)) gP = none := by rw [smul_mul gP_ok, h, smul_none]
  have e2 := smul_modn gP_ok order_G (k * (k ^ (modK 1 - 2) % modK 1))
  have e3 : k * (k ^ (modK 1 - 2) % modK 1) % ordN = 1 := h1
  rw [e3, e1] at e2
  exact gP_ne e2

theorem smul_inj {i j : Nat} (hij : i < j) (hj : j < ordN) : smul i gP ≠ smul j gP := fun h => by
  have e : smul j gP = padd (smul i gP) (smul (j - i) gP) := by rw [← smul_add gP_ok]; congr 1; omega
  have h2 : padd (smul i gP) none = padd (smul i gP) (smul (j - i) gP) := by rw [padd_none, ← e]; exact h
  have := padd_cancel (smul_ok gP_ok i) (show PtOk none from trivial) (smul_ok gP_ok _) h2
  exact smul_ne (by omega) (by omega) this.symm

def InG (P : Pt) : Prop := ∃ k, P = smul k gP

theorem InG.sub {P : Pt} (hP : PtOk P) {i j : Nat} (hi : i ≤ ordN) (h : padd P (smul i gP) = smul j gP) : InG P := by
  refine ⟨j + (ordN - i), ?_⟩
  have ok := smul_ok gP_ok
  have e : smul i gP = smul i gP := rfl
  rw [smul_add gP_ok, ← h, padd_assoc hP (ok _) (ok _), ← smul_add gP_ok, show i + (ordN - i) = ordN by omega, order_G, padd_none]

theorem two_torsion {Q : Pt} (hQ : PtOk Q) (h : padd Q Q = none) : Q = none := by
  cases Q with
  | none => rfl
  | some q =>
    rw [padd_some (not_self_opp hQ)] at h
    cases h

theorem ordN_odd : ordN % 2 = 1 := by decide

theorem InG.half {P : Pt} (hP : PtOk P) (h : InG (padd P P)) : InG P := by
  obtain ⟨m, hm⟩ := h
  have ok := smul_ok gP_ok
  have key : ∃ c, smul (2 * c) gP = padd P P := by
    rcases (show m % 2 = 0 ∨ m % 2 = 1 by omega) with h | h
    · exact ⟨m / 2, by rw [hm, show 2 * (m / 2) = m by omega]⟩
    · refine ⟨(m + ordN) / 2, ?_⟩
      have := ordN_odd
      rw [show 2 * ((m + ordN) / 2) = m + ordN by omega, smul_add gP_ok, order_G, padd_none, hm]
  obtain ⟨c, hc⟩ := key
  have okn := pneg_ok (ok c)
  have hQ : PtOk (padd P (pneg (smul c gP))) := padd_ok hP okn
  have h2 : padd (padd P (pneg (smul c gP))) (padd P (pneg (smul c gP))) = none := by
    rw [padd_assoc hP okn hQ, ← padd_assoc okn hP okn, padd_comm okn hP, padd_assoc hP okn okn, ← padd_assoc hP hP (padd_ok okn okn), ← hc, Nat.two_mul, smul_add gP_ok]
    rw [padd_assoc (ok c) (ok c) (padd_ok okn okn), ← padd_assoc (ok c) okn okn, padd_neg, none_padd, padd_neg]
  have h3 := two_torsion hQ h2
  refine ⟨c, ?_⟩
  have h4 : padd (pneg (smul c gP)) P = padd (pneg (smul c gP)) (smul c gP) := by
    rw [padd_comm okn hP, h3, padd_comm okn (ok c), padd_neg]
  exact padd_cancel okn hP (ok c) h4

def codeP : Pt → Nat
  | none => 2 * prP
  | some p => 2 * p.1.val + p.2.val % 2

theorem codeP_lt (P : Pt) : codeP P < 2 * prP + 1 := by
  cases P with
  | none => show 2 * prP < 2 * prP + 1; omega
  | some p =>
    have := val_lt p.1
    show 2 * p.1.val + p.2.val % 2 < 2 * prP + 1
    omega

theorem codeP_inj {P Q : Pt} (hP : PtOk P) (hQ : PtOk Q) (h : codeP P = codeP Q) : P = Q := by
  cases P with
  | none =>
    cases Q with
    | none => rfl
    | some q =>
      have := val_lt q.1
      have h : 2 * prP = 2 * q.1.val + q.2.val % 2 := h
      omega
  | some p =>
    cases Q with
    | none =>
      have := val_lt p.1
      have h : 2 * p.1.val + p.2.val % 2 = 2 * prP := h
      omega
    | some q =>
      have h : 2 * p.1.val + p.2.val % 2 = 2 * q.1.val + q.2.val % 2 := h
      have hx : p.1 = q.1 := FP.ext (by omega)
      have hpar : p.2.val % 2 = q.2.val % 2 := by omega
      have hodd := prP_odd
      have hy : p.2.val * p.2.val % prP = q.2.val * q.2.val % prP := by
        have h1 : p.2 * p.2 = q.2 * q.2 := by
          have h2 : p.2 * p.2 = p.1 * p.1 * p.1 + toF 7 := hP
          have h3 : q.2 * q.2 = q.1 * q.1 * q.1 + toF 7 := hQ
          rw [h2, h3, hx]
        exact congrArg Fin.val h1
      have l1 := val_lt p.2
      have l2 := val_lt q.2
      rcases sq_roots l1 l2 hy with h4 | h4 | h4
      · rw [Prod.ext hx (FP.ext h4)]
      · omega
      · rw [Prod.ext hx (FP.ext (by omega))]

/-- **Every point is a multiple of the base point.** -/
theorem all_mul {P : Pt} (hP : PtOk P) : InG P := by
  refine Classical.byContradiction fun hn => ?_
  have hn2 : ¬ InG (padd P P) := fun h => hn (InG.half hP h)
  have ok := smul_ok gP_ok
  have okP := smul_ok hP
  let f : Nat → Pt := fun t => padd (smul (t / ordN) P) (smul (t % ordN) gP)
  have hf : ∀ i j, i < j → j < 3 * ordN → codeP (f i) ≠ codeP (f j) := by
    intro i j hij hj h
    have h1 : f i = f j := codeP_inj (padd_ok (okP _) (ok _)) (padd_ok (okP _) (ok _)) h
    have hp := ordN_pos
    have hi3 : i / ordN < 3 := by rw [Nat.div_lt_iff_lt_mul hp]; omega
    clear h
    have hj3 : j / ordN < 3 := by rw [Nat.div_lt_iff_lt_mul hp]; omega
    have hle : i / ordN ≤ j / ordN := Nat.div_le_div_right (by omega)
    have ri := Nat.mod_lt i hp
    have rj := Nat.mod_lt j hp
    have di := Nat.div_add_mod i ordN
    have dj := Nat.div_add_mod j ordN
    have h2 : padd (smul (i / ordN) P) (smul (i % ordN) gP) = padd (smul (j / ordN) P) (smul (j % ordN) gP) := h1
    generalize hc : j / ordN - i / ordN = c at *
    have ec : j / ordN = i / ordN + c := by omega
    rw [ec, smul_add hP, padd_assoc (okP _) (okP _) (ok _)] at h2
    have h3 := padd_cancel (okP _) (ok _) (padd_ok (okP _) (ok _)) h2
    have hcl : c ≤ 2 := by rw [← hc]; exact Nat.le_trans (Nat.sub_le _ _) (Nat.le_of_lt_succ hj3)
    have hc3 : c = 0 ∨ c = 1 ∨ c = 2 := by clear di dj hj3 hi3 hj hij ri rj; omega
    rcases hc3 with rfl | rfl | rfl
    · have h4 : smul (i % ordN) gP = smul (j % ordN) gP := h3
      have : i % ordN < j % ordN := by
        rw [ec, Nat.add_zero] at dj
        have dj' : ordN * (i / ordN) + j % ordN = j := dj
        have di' : ordN * (i / ordN) + i % ordN = i := di
        exact Nat.lt_of_add_lt_add_left (n := ordN * (i / ordN)) (by rw [di', dj']; exact hij)
      exact smul_inj this rj h4
    · have h4 : padd P (smul (j % ordN) gP) = smul (i % ordN) gP := h3.symm
      exact hn (InG.sub hP (Nat.le_of_lt rj) h4)
    · have h4 : padd (padd P P) (smul (j % ordN) gP) = smul (i % ordN) gP := h3.symm
      exact hn2 (InG.sub (padd_ok hP hP) (Nat.le_of_lt rj) h4)
  have := pigeon (f := fun t => codeP (f t)) (q := 3 * ordN) (r := 2 * prP + 1) hf (fun i _ => codeP_lt _)
  exact absurd this (by decide)

/-- **n times a point is the identity.** -/
theorem order_all {P : Pt} (hP : PtOk P) : smul ordN P = none := by
  obtain ⟨k, rfl⟩ := all_mul hP
  rw [← smul_mul gP_ok, Nat.mul_comm, smul_mul gP_ok, order_G, smul_none]

end Go.Sy
