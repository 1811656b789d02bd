-- own work: an evaluator of the program's code, and what it answers
import Derived.Test.YtdmoipccmbimhaaGreatDoorW11

